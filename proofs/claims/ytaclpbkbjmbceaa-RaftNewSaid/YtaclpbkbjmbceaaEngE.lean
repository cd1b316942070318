/-
  THE ENGINE's SLICES AND STRINGS: what is built, cut, compared; rows that are made, stored into, appended to.
-/
import Derived.Test.YtaclpbkbjmbceaaEngD
set_option linter.unusedVariables false
set_option linter.unusedSimpArgs false
namespace Go.Eng
open Go.RowKit

/-! ### 1. Structs built -/
def fillL (flds : List (Nat × Nat)) : List Value → List (Nat × Value) → Option (List Value)
  | cs, [] => some cs
  | cs, (k, v) :: r => match flds[k]? with
    | none => none
    | some (o, s) => cond (Nat.beq v.cells.toList.length s && Nat.ble (o + s) cs.length) (fillL flds (setL cs o v.cells.toList) r) none
theorem foldl_set : ∀ (vs : List Value) (k j : Nat) (cs : List Value), (vs.zipIdx j).foldl (fun (cs : Array Value) (p : Value × Nat) => cs.setIfInBounds (k + p.2) p.1) cs.toArray = (setL cs (k + j) vs).toArray
  | [], k, j, cs => rfl
  | v :: vs, k, j, cs => by
    simp only [List.zipIdx_cons, List.foldl_cons, setL]
    have := foldl_set vs k (j + 1) (cs.set (k + j) v)
    rw [← Nat.add_assoc] at this
    simpa using this
theorem fill_eq {flds : List (Nat × Nat)} : ∀ (ps : List (Nat × Value)) (cs vs : List Value), fillL flds cs ps = some vs → Instr.fill (fun i => flds.toArray[i]?) cs.toArray ps = some vs.toArray
  | [], cs, vs, h => by simp [fillL] at h; simp [Instr.fill, h]
  | (k, v) :: r, cs, vs, h => by
    unfold fillL at h
    cases hf : flds[k]? with
    | none => rw [hf] at h; cases h
    | some os =>
      obtain ⟨o, s⟩ := os
      rw [hf] at h
      simp only at h
      cases hb : (Nat.beq v.cells.toList.length s && Nat.ble (o + s) cs.length) with
      | false => rw [hb] at h; cases h
      | true =>
        rw [hb] at h
        simp only [Bool.and_eq_true, Nat.ble_eq] at hb
        have h1 := Nat.eq_of_beq_eq_true hb.1
        have ih := fill_eq r _ _ h
        have h2 : v.cells.size = s := by rw [← Array.length_toList]; exact h1
        have h3 : v.cells.zipIdx.foldl (fun (cs : Array Value) (p : Value × Nat) => cs.setIfInBounds (o + p.2) p.1) cs.toArray = (setL cs o v.cells.toList).toArray := by
          rw [← Array.foldl_toList, Array.toList_zipIdx]
          exact foldl_set v.cells.toList o 0 cs
        have hne : ¬ (v.cells.size ≠ s ∨ o + v.cells.size > cs.toArray.size) := by simp [h2]; omega
        simp only [Instr.fill]
        simp only [List.getElem?_toArray, hf]
        simp only [bne_iff_ne, Bool.or_eq_true, decide_eq_true_eq, hne, if_false]
        simp only [h3]
        simpa [h2, hb.2] using ih

section
variable {Γ : Ctx} {e : Env} {As As' : List Atom} {d : Option Tmp} {ty : TypeId} {pos : String} {af : Array Edge} {gd : Option (Nat × Bool)} {t : TypeId} {i : TyI}
theorem val_build {ps : Array (Nat × Operand)} {pvs : List (Nat × Value)} {vs : List Value} (hp : evP e ps.toList = some pvs) (ht : tfind Γ.tys t = some i) (hs : i.td = .struct) (hf : fillL i.flds i.zero pvs = some vs) :
    Val Γ e As ⟨d, .build t ps, ty, pos, af, gd⟩ (.agg vs.toArray) := .mk fun a w ha hw => by
  obtain ⟨z, h1, h2⟩ := run_zeroValue (Γ.ok t i ht) w
  obtain ⟨fs, h3, h4⟩ := (Γ.ok t i ht).plc hs
  have h5 : (ps.map fun (i, x) => (i, a.eval x)).toList = pvs := by rw [Array.toList_map]; exact ha.evalP hp
  have h6 := fill_eq pvs i.zero vs hf
  rw [← h2] at h6
  simp only [execOp, Instr.build, Sem.run_bind, h1, Result.andThen_ok, run_underlying h3, h4, h5]
  have h7 : Instr.fill (fun x => i.flds[x]?) z.cells pvs = some vs.toArray := by simpa using h6
  simp [h7]

/-! ### 2. Strings -/
theorem val_str_eql {xt yt : TypeId} {x y : Operand} {p q : ByteArray} (hx : ev e x = some (.string p)) (hy : ev e y = some (.string q)) : Val Γ e As ⟨d, .binOp .eql xt x y yt, ty, pos, af, gd⟩ (.bool (p.toList == q.toList)) :=
  val_bin hx hy (fun w => guard_str _ _ _ _ _ _ w) fun w => by simp [binOp, Op.stringOp]
theorem val_str_neq {xt yt : TypeId} {x y : Operand} {p q : ByteArray} (hx : ev e x = some (.string p)) (hy : ev e y = some (.string q)) : Val Γ e As ⟨d, .binOp .neq xt x y yt, ty, pos, af, gd⟩ (.bool (!(p.toList == q.toList))) :=
  val_bin hx hy (fun w => guard_str _ _ _ _ _ _ w) fun w => by simp [binOp, Op.stringOp]
/-- An argument that is a slice: what it holds, and that it may be read. -/
class Sl {α : outParam Type} (w : World) (F : Nat → Prop) (enc : outParam (α → List Value)) (s : outParam Nat) (l : outParam (List α)) (A : Option Addr) (c : outParam Nat) : Prop where
  rd : RdO w F A s (l.map enc)
  cap : l.length ≤ c
  len : l.length ≤ 140737488355328
theorem getmap {α : Type} {enc : α → List Value} {l : List α} {j : Nat} {x : α} (h : l[j]? = some x) : (l.map enc)[j]? = some (enc x) := by simp [h]
theorem Sl.some {α : Type} {w : World} {F : Nat → Prop} {enc : α → List Value} {s : Nat} {l : List α} {A : Option Addr} {c : Nat} (h : Sl w F enc s l A c) (hn : 0 < l.length) : ∃ b o, A = some ⟨b, o, none⟩ := some_of_rd h.rd.rd (by simpa using hn)
theorem get_some {α : Type} {l : List α} {j : Int} (h0 : 0 ≤ j) (h1 : j < l.length) : ∃ x, l[j.toNat]? = some x := ⟨l[j.toNat]'(by omega), List.getElem?_eq_getElem _⟩
end
end Go.Eng
