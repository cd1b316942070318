/-
  THE ENGINE's SLICES, handed on.
-/
import Derived.Test.YtaclpbkbjmbceaaEngH
set_option linter.unusedVariables false
set_option linter.unusedSimpArgs false
namespace Go.Eng
open Go.RowKit
section
variable {α : Type} {w0 w : World} {F0 : Nat → Prop} {As Bs Rs : List Atom} {enc : α → List Value} {s : Nat} {l : List α} {A : Option Addr} {c : Nat}
theorem Sl.keep (hl : Sl w0 F0 enc s l A c) (hw : HeapOK w0 F0 As w) : Sl w (fpAll []) enc s l A c := ⟨hw.rdo Pick.nil hl.rd, hl.cap, hl.len⟩
theorem Sl.keepP (hl : Sl w0 F0 enc s l A c) (hw : HeapOK w0 F0 As w) (hp : Pick As Bs Rs) : Sl w (fpAll Bs) enc s l A c := ⟨hw.rdo hp hl.rd, hl.cap, hl.len⟩
theorem Sl.rdK (hl : Sl w0 F0 enc s l A c) (hw : HeapOK w0 F0 As w) : Rd w A s (l.map enc) := hw.rd hl.rd
/-- A row of its own, as what is read. -/
theorem Sl.row {el : TypeId} {n : Nat} (hw : HeapOK w0 F0 As w) (hs : 0 < s) (hp : Pick As Bs Rs) (hA : Has Rs (.row (.slice A n c) el s (l.map enc))) (hlen : l.length ≤ 140737488355328) : Sl w (fpAll Bs) enc s l A c := by
  refine ⟨hw.rowRdO hp hs hA, ?_, hlen⟩
  have hm : Atom.row (.slice A n c) el s (l.map enc) ∈ As := (hp.perm.mem_iff).2 (List.mem_append_right _ hA.mem)
  obtain ⟨A', c', h1, h2, _⟩ := row_form (hw.ok _ hm)
  injection h1 with e1 e2 e3
  subst e3
  simpa using h2
theorem row_rd' {el : TypeId} {n : Nat} (hw : HeapOK w0 F0 As w) (hA : Has As (.row (.slice A n c) el s (l.map enc))) : Rd w A s (l.map enc) := row_rd (hw.ok _ hA.mem)
theorem row_some {el : TypeId} {n : Nat} {xs : List (List Value)} (hw : HeapOK w0 F0 As w) (hA : Has As (.row (.slice A n c) el s xs)) (hn : 0 < xs.length) : ∃ b o, A = some ⟨b, o, none⟩ := some_of_rd (row_rd (hw.ok _ hA.mem)) hn
theorem row_cap {el : TypeId} {n : Nat} {xs : List (List Value)} (hw : HeapOK w0 F0 As w) (hA : Has As (.row (.slice A n c) el s xs)) : n = xs.length ∧ xs.length ≤ c := by
  obtain ⟨A', c', h1, h2, _⟩ := row_form (hw.ok _ hA.mem)
  injection h1 with e1 e2 e3
  subst e2 e3
  exact ⟨rfl, h2⟩
/-- What is left of a slice that is read, cut. -/
theorem Sl.take (hl : Sl w F0 enc s l A c) (n : Nat) : Sl w F0 enc s (l.take n) A c := ⟨by rw [List.map_take]; exact hl.rd.take n, by have := hl.cap; simp; omega, by have := hl.len; simp; omega⟩
theorem Sl.takeC (hl : Sl w F0 enc s l A c) (n : Nat) : Sl w F0 enc s (l.take n) (cutA A s c 0) c := by
  have h := hl.take n
  refine ⟨fun hn => ?_, h.cap, h.len⟩
  obtain ⟨h1, b, o, rfl, h2, h3⟩ := h.rd hn
  refine ⟨h1, b, o, ?_, h2, h3⟩
  unfold cutA
  split
  · rfl
  · simp [add_mk]
theorem Sl.drop (hl : Sl w F0 enc s l A c) (n : Nat) : Sl w F0 enc s (l.drop n) (cutA A s c n) (c - n) := by
  refine ⟨?_, by have := hl.cap; simp; omega, by have := hl.len; simp; omega⟩
  rw [List.map_drop]
  exact hl.rd.drop n c (by simpa using hl.cap)
end
section
variable {Γ : Ctx} {e : Env} {As : List Atom} {d : Option Tmp} {ty : TypeId} {pos : String} {af : Array Edge} {gd : Option (Nat × Bool)} {t : TypeId} {i : TyI}
theorem val_fieldAddr_elt {x : Operand} {k : Nat} {A : Option Addr} {s o o' : Nat} {j : Int} {f1 f2 : Nat} (hx : ev e x = some (.pointer (some ((eptr A s j).add o)))) (ht : tfind Γ.tys t = some i) (hf : i.flds[k]? = some (f1, f2)) (ho : o + f1 = o') :
    Val Γ e As ⟨d, .fieldAddr t x k, ty, pos, af, gd⟩ (.pointer (some ((eptr A s j).add o'))) := by
  have h := val_fieldAddr (Γ := Γ) (e := e) (As := As) (d := d) (ty := ty) (pos := pos) (af := af) (gd := gd) hx ht hf
  have h2 : ((eptr A s j).add o).add f1 = (eptr A s j).add o' := by
    subst ho
    unfold eptr
    split <;> simp [add_mk, Nat.add_assoc]
  rw [h2] at h
  exact h
end
/-- A call that is handed no atom and hands back a value of which something is known. -/
theorem eff_call_val {Γ : Ctx} {e : Env} {As : List Atom} {d : Option Tmp} {ty : TypeId} {pos : String} {af : Array Edge} {gd : Option (Nat × Bool)} {f : Operand} {fid : FuncId} {args : Array Operand} {ats : Array TypeId} {us xs ys : List Value} {p : Value → Prop} (hf : ev e f = some (.func (.func fid) xs.toArray ys.toArray)) (hargs : evL e args.toList = some us) (hok : okCall Γ.P fid = true)
    (h : ∀ w, HeapOK Γ.w0 Γ.F0 As w → Meets Γ.P fid (xs ++ us ++ ys) w (fpAll []) (fun v _ => p v)) :
    Eff Γ e As ⟨d, .call { callee := .value f, args := args, argTypes := ats }, ty, pos, af, gd⟩ (fun v As' => p v ∧ As' = As) :=
  eff_call hf hargs hok fun w hw => Calls.mono (call_meets Pick.nil hw fun _ => h w hw) fun e' w' ⟨v, As', he, ⟨As1, hR, hA⟩, hh⟩ => by subst hA; exact ⟨v, As, he, ⟨hR, rfl⟩, hh.dropL⟩
/-- A call that is handed atoms: what is left of them, and what is new, stands ahead of the rest. -/
theorem eff_call_at {Γ : Ctx} {e : Env} {As Bs Rs : List Atom} {d : Option Tmp} {ty : TypeId} {pos : String} {af : Array Edge} {gd : Option (Nat × Bool)} {f : Operand} {fid : FuncId} {args : Array Operand} {ats : Array TypeId} {us xs ys : List Value} {R : Value → List Atom → Prop} (hf : ev e f = some (.func (.func fid) xs.toArray ys.toArray)) (hargs : evL e args.toList = some us) (hok : okCall Γ.P fid = true)
    (hp : Pick As Bs Rs) (h : ∀ w, HeapOK Γ.w0 Γ.F0 As w → Meets Γ.P fid (xs ++ us ++ ys) w (fpAll Bs) R) (hb : ∀ w, HeapOK w (fpAll Bs) Bs w → True := fun _ _ => trivial) :
    Eff Γ e As ⟨d, .call { callee := .value f, args := args, argTypes := ats }, ty, pos, af, gd⟩ (fun v As' => ∃ As1, R v As1 ∧ As' = As1 ++ Rs) :=
  eff_call hf hargs hok fun w hw => Calls.mono (call_meets hp hw fun _ => h w hw) fun e' w' ⟨v, As', he, hR, hh⟩ => ⟨v, As', he, hR, hh⟩
theorem half (s : Int) (h0 : 0 ≤ s) (h1 : s < 9223372036854775808) : IntKind.i64.wrap ((IntKind.u64.wrap s).fdiv (2 ^ min (1 : Int).toNat IntKind.u64.bits)) = s / 2 := by
  have e1 : IntKind.u64.wrap s = s := by rw [IntKind.wrap_u64]; omega
  have e2 : (2 : Int) ^ min (1 : Int).toNat IntKind.u64.bits = 2 := by decide
  rw [e1, e2, Int.fdiv_eq_ediv_of_nonneg _ (by omega), IntKind.wrap_i64]
  omega
end Go.Eng
