/-
  THE ENGINE's LIBRARY STEPS: append within a row, append of zeros, overlaps, calls that are handed rows.
-/
import Derived.Test.YtaclpbkbjmbceaaEngK
import Derived.Lib.Overlaps
set_option linter.unusedVariables false
set_option linter.unusedSimpArgs false
namespace Go.Eng
open Go.RowKit
theorem cutA_some {g o s c k : Nat} (h : c ≠ k) : cutA (some ⟨g, o, none⟩) s c k = some ⟨g, o + k * s, none⟩ := by
  unfold cutA
  rw [if_neg h]
  simp [add_mk]
theorem cutA_zero {A : Option Addr} {s c : Nat} (hA : ∀ ad, A = some ad → ad.spot = none) : cutA A s c 0 = A := by
  unfold cutA
  split
  · rfl
  · cases A with
    | none => rfl
    | some ad =>
      obtain ⟨b, o, sp⟩ := ad
      have := hA _ rfl
      simp only at this
      subst this
      simp [add_mk]
section
variable {w0 w : World} {F0 : Nat → Prop} {As Bs Rs : List Atom}
theorem blk_sl {g : Nat} {cs : List Value} {u : TypeId} {s : Nat} (hw : HeapOK w0 F0 As w) (hp : Pick As Bs Rs) (hA : Has Rs (.blk g cs u)) (hs : cs.length = s) (h0 : 0 < s) : Sl w (fpAll Bs) (fun x => x) s [cs] (some ⟨g, 0, none⟩) 1 := by
  have hm : Atom.blk g cs u ∈ As := (hp.perm.mem_iff).2 (List.mem_append_right _ hA.mem)
  refine ⟨fun _ => ⟨h0, g, 0, rfl, fun hB => ?_, fun j c hj => ?_⟩, by simp, by simp⟩
  · obtain ⟨B, hB1, hB2⟩ := fpAll_mem.1 hB
    exact (List.pairwise_append.1 (hw.perm hp.perm).sep).2.2 B hB1 _ hA.mem g hB2 rfl
  · match j, hj with
    | 0, hj =>
      simp at hj
      subst hj
      refine ⟨hs, fun i u hu => ?_⟩
      rw [cell_of_row w g _ cs.toArray _ (0, 0) (hw.ok _ hm)]
      simpa using hu
/-- A row's own address. -/
theorem row_addr {A : Option Addr} {n c : Nat} {el : TypeId} {s : Nat} {xs : List (List Value)} (h : HeapOK w0 F0 (.row (.slice A n c) el s xs :: Rs) w) : (A = none ∧ n = 0 ∧ c = 0) ∨ ∃ g, A = some ⟨g, 0, none⟩ := by
  rcases (h.ok _ List.mem_cons_self).1.2 with ⟨he, h0⟩ | ⟨g, cap, cur, he, _⟩
  · injection he with e1 e2 e3; exact .inl ⟨e1, e2, e3⟩
  · injection he with e1 e2 e3; exact .inr ⟨g, e1⟩
end
section
variable {Γ : Ctx} {e : Env} {As Bs Rs : List Atom} {d : Option Tmp} {ty : TypeId} {pos : String} {af : Array Edge} {gd : Option (Nat × Bool)} {t el : TypeId} {i ie : TyI}
/-- append(s[:i], s[j:]...): within s's own row. -/
theorem eff_append_within {x y : Operand} {g n c k j : Nat} {D E : Option Addr} {dl dc : Nat} {xs : List (List Value)} {ats : Array TypeId} (hx : ev e x = some (.slice D k c)) (hD : D = some ⟨g, 0, none⟩) (hy : ev e y = some (.slice E dl dc)) (hE : E = some ⟨g, j * ie.size, none⟩ ∨ dl = 0) (hdl : dl = xs.length - j) (hat : ats = #[t, t]) (ht : tfind Γ.tys t = some i) (hd : i.td = .slice el) (he : tfind Γ.tys el = some ie)
    (hr : Rem As (.row (.slice (some ⟨g, 0, none⟩) n c) el ie.size xs) Rs) (hkj : k ≤ j) (hj : j ≤ xs.length) (h1 : ∀ c ∈ xs, allOne c = true) :
    Eff Γ e As ⟨d, .call { callee := .builtin .append, args := #[x, y], argTypes := ats }, ty, pos, af, gd⟩ (fun u As' => u = .slice (some ⟨g, 0, none⟩) (k + (xs.length - j)) c ∧ As' = .row (.slice (some ⟨g, 0, none⟩) n c) el ie.size (ovw xs k (xs.drop j)) :: Rs) := .mk fun a w ha hw => by
  subst hat hD hdl
  have hw1 := hw.perm hr.perm
  have hok := hw1.ok _ List.mem_cons_self
  have hxs := hok.2
  obtain ⟨A', c', he', hc', _⟩ := row_form hok
  injection he' with e1 e2 e3
  subst e3
  have hzm : ∀ c ∈ xs.drop j, c.length = ie.size := fun c hc => hxs c (List.mem_of_mem_drop hc)
  have hzl : (xs.drop j).length = xs.length - j := by simp
  have hov : ∀ c ∈ ovw xs k (xs.drop j), c.length = ie.size := fun c hc => by
    rcases List.mem_append.1 hc with hc | hc
    · rcases List.mem_append.1 hc with hc | hc
      · exact hxs c (List.mem_of_mem_take hc)
      · exact hzm c hc
    · exact hxs c (List.mem_of_mem_drop hc)
  obtain ⟨w', h6, h7⟩ := hw1.rowCells (P := Γ.P) (p := k * ie.size) (vs := (xs.drop j).flatten) (xs' := ovw xs k (xs.drop j)) (by rw [flatten_length hzm, hzl, ← Nat.add_mul]; exact Nat.mul_le_mul_right _ (by omega)) (ovw_length (by omega)) hov (ovw_flatten hxs hzm (by omega))
    (allOne_flat fun c hc => h1 c (List.mem_of_mem_drop hc))
  have h8 : (Builtin.firstCells ie.size (xs.length - j) (.slice E (xs.length - j) dc)).run Γ.P w = .ok (xs.drop j).flatten.toArray w := by
    by_cases h0 : xs.length - j = 0
    · have : xs.drop j = [] := List.eq_nil_of_length_eq_zero (by omega)
      rw [this, h0]
      cases E <;> simp [Builtin.firstCells, loadCells, loadCellsFrom]
    · have hE' := hE.resolve_right h0
      subst hE'
      have hrd : Rd w (some ⟨g, 0 + j * ie.size, none⟩) ie.size (xs.drop j) := by
        have := (row_rd hok).drop j c hc'
        rw [if_neg (by omega)] at this
        simpa [add_mk] using this
      have hfl := hrd.flat hzm rfl (by omega)
      have := run_loadCells_list (P := Γ.P) w _ (xs.drop j).flatten hfl
      rw [flatten_length hzm, hzl] at this
      simpa [Builtin.firstCells] using this
  have h9 : (Builtin.append_ #[t, t] ty #[.slice (some ⟨g, 0, none⟩) k c, .slice E (xs.length - j) dc]).run Γ.P w = .ok (.slice (some ⟨g, 0, none⟩) (k + (xs.length - j)) c) w' := by
    have hfit : k + (xs.length - j) ≤ c := by omega
    have hu := slice_of (Γ.ok t i ht) hd
    simp only [Builtin.append_, List.getElem?_toArray, List.getElem?_cons_zero, List.getElem?_cons_succ, Sem.run_bind, run_underlying hu, Result.andThen_ok, run_sizeOf (Γ.ok el ie he), Builtin.lenOf, Sem.run_pure, if_pos hfit, Bool.not_false, if_true, Bool.false_eq_true, if_false]
    simp only [h8, Result.andThen_ok, add_mk, Nat.zero_add, h6]
  have h10 : (execOp a.eval ⟨d, .call { callee := .builtin .append, args := #[x, y], argTypes := #[t, t] }, ty, pos, af, gd⟩).run Γ.P w = .ok (.value (.slice (some ⟨g, 0, none⟩) (k + (xs.length - j)) c)) w' := by
    simp only [execOp, resolve, invoke, builtin, Sem.run_bind, Sem.run_pure, Result.andThen_ok, List.map_toArray, List.map_cons, List.map_nil, ha.eval hx, ha.eval hy, h9]
  unfold wpR
  rw [h10]
  exact ⟨_, _, rfl, ⟨rfl, rfl⟩, h7⟩
theorem run_callFunc_over {P : Program} {f : FuncId} {fn : Func} {ex : Array Value → Sem Value} (hf : P.funcs[f]? = some fn) (hn : (fn.name == "runtime.NumGoroutine") = false) (hb : fn.body.isNone = true) (hN : Extern.findNext fn = none) (hE : Extern.find fn = some ex) (args : Array Value) (w : World) : (callFunc f args).run P w = ((ex args).run P w).andThen fun v w' => .ok (.value v) w' := by
  rw [run_callFunc_extern hf hn hb hN hE]
/-- slices.overlaps of a block of its own and a row. -/
theorem eff_overlaps {f : Operand} {fid : FuncId} {fn : Func} {args : Array Operand} {ats : Array TypeId} {g g' o la ca lb cb n c : Nat} {tR : TypeId} {xs : List (List Value)} {D : Option Addr} {VA : Option Addr}
    (hf : ev e f = some (.func (.func fid) #[] #[])) (hargs : evL e args.toList = some [.slice VA la ca, .slice D lb cb]) (hV : VA = some ⟨g, 0, none⟩) (hD : D = some ⟨g', o, none⟩) (hfn : Γ.P.funcs[fid]? = some fn) (hn : (fn.name == "runtime.NumGoroutine") = false) (hb : fn.body.isNone = true) (hN : Extern.findNext fn = none) (hE : Extern.find fn = some (Extern.SlicesOverlaps.overlaps #[t, t] #[tR])) (ht : tfind Γ.tys t = some i) (hd : i.td = .slice el) (he : tfind Γ.tys el = some ie)
    (hA : Has As (.row (.slice (some ⟨g', 0, none⟩) n c) el ie.size xs)) (h0 : 0 < c * ie.size) (hV2 : ∀ w, HeapOK Γ.w0 Γ.F0 As w → g ≠ g' ∧ ∃ tA kA, w.shape? g = some (tA, kA) ∧ w.frozen? ⟨g, 0, none⟩ = false ∧ w.frozen? ⟨g, kA, none⟩ = false) :
    Eff Γ e As ⟨d, .call { callee := .value f, args := args, argTypes := ats }, ty, pos, af, gd⟩ (fun v As' => v = .bool false ∧ As' = As) := .mk fun a w ha hw => by
  subst hV hD
  have h1 : args.map a.eval = #[.slice (some ⟨g, 0, none⟩) la ca, .slice (some ⟨g', o, none⟩) lb cb] := by apply Array.ext'; rw [Array.toList_map, ha.evalL hargs]
  obtain ⟨hne, tA, kA, hs, hf1, hf2⟩ := hV2 w hw
  have hok := hw.ok _ hA.mem
  have hsB : w.shape? g' = some (el, c * ie.size) := by
    rcases hok.1.2 with ⟨he', _⟩ | ⟨g2, cap, cur, he', _, hg, _, _, hcs, _⟩
    · cases he'
    · injection he' with e1 e2 e3
      injection e1 with e1
      injection e1 with e1
      subst e1 e3
      simp [World.shape?, hg, hcs]
  have h3 : (callFunc fid #[.slice (some ⟨g, 0, none⟩) la ca, .slice (some ⟨g', o, none⟩) lb cb]).run Γ.P w = .ok (.value (.bool false)) w := by
    rw [run_callFunc_over hfn hn hb hN hE, Lib.run_overlaps_apart w t tR el (slice_of (Γ.ok t i ht) hd) ie.size (fun w => run_sizeOf (Γ.ok el ie he) w) ⟨g, 0, none⟩ ⟨g', o, none⟩ la ca lb cb hne tA el kA (c * ie.size) hs hsB (by omega) hf1 hf2]
    rfl
  have h2 : (execOp a.eval ⟨d, .call { callee := .value f, args := args, argTypes := ats }, ty, pos, af, gd⟩).run Γ.P w = .ok (.value (.bool false)) w := by
    simp only [execOp, resolve, ha.eval hf, h1, Deferred.ofValue, invoke, Sem.run_bind, Sem.run_pure, Result.andThen_ok]
    simpa using h3
  unfold wpR
  rw [h2]
  exact ⟨_, _, rfl, ⟨rfl, rfl⟩, hw⟩
/-- A call that is handed atoms, which it may turn. -/
theorem eff_call_own {f : Operand} {fid : FuncId} {args : Array Operand} {ats : Array TypeId} {us xs ys : List Value} {R : Value → List Atom → Prop} (Bs : List Atom) (hf : ev e f = some (.func (.func fid) xs.toArray ys.toArray)) (hargs : evL e args.toList = some us) (hok : okCall Γ.P fid = true)
    (hp : Pick As Bs Rs) (h : ∀ w, HeapOK Γ.w0 Γ.F0 As w → HeapOK w (fpAll Bs) Bs w → Meets Γ.P fid (xs ++ us ++ ys) w (fpAll Bs) R) :
    Eff Γ e As ⟨d, .call { callee := .value f, args := args, argTypes := ats }, ty, pos, af, gd⟩ (fun v As' => ∃ As1, R v As1 ∧ As' = As1 ++ Rs) :=
  eff_call hf hargs hok fun w hw => Calls.mono (call_meets hp hw fun hb => h w hw hb) fun e' w' ⟨v, As', he, hR, hh⟩ => ⟨v, As', he, hR, hh⟩
end
end Go.Eng
