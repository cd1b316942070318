/-
  THE ENGINE's STRUCTS THAT ARE COMPARED: with themselves.
-/
import Derived.Test.YtaclpbkbjmbceaaEngI
import Derived.Laws.StructEq
set_option linter.unusedVariables false
set_option linter.unusedSimpArgs false
namespace Go.Eng
open Go.RowKit
section
variable {P : Program} {tys : List (Nat × TyI)} {w : World}
def sameOK (tys : List (Nat × TyI)) (v : Value) (t : TypeId) : Bool := match tfind tys t with
  | some i => match i.td, v with
    | .int _, .int _ _ => true
    | .string, .string _ => true
    | .bool, .bool _ => true
    | _, _ => false
  | none => false
theorem part_scalar {t : TypeId} {i : TyI} (h : TyOK P t i) (hs : i.td.scalar = true) {cs : Array Value} {off : Nat} {v : Value} (hv : cs[off]? = some v) : (part t cs off).run P w = .ok v w := by
  have h1 := run_isAgg h w
  cases hd : i.td <;> rw [hd] at h1 hs <;> simp only [TD.scalar, Bool.false_eq_true] at hs <;> simp [part, h1, hv]
theorem same_cell (ok : TysOK P tys) {v : Value} {t : TypeId} (h : sameOK tys v t = true) (d : Nat) {cs : Array Value} {off : Nat} (hv : cs[off]? = some v) : (part t cs off).run P w = .ok v w ∧ (Op.equalIn (d + 1) t v v).run P w = .ok true w := by
  unfold sameOK at h
  split at h
  · rename_i i hi
    have hok := ok t i hi
    obtain ⟨dd, h2, h3⟩ := hok.und
    split at h
    · rename_i k k' n hd
      rw [hd] at h3
      have h4 : dd = .int k := by cases dd <;> simp_all [TD.of]
      subst h4
      exact ⟨part_scalar hok (by rw [hd]; rfl) hv, by simp [Op.equalIn, run_underlying h2]⟩
    · rename_i s hd
      rw [hd] at h3
      have h4 : dd = .string := by cases dd <;> simp_all [TD.of]
      subst h4
      exact ⟨part_scalar hok (by rw [hd]; rfl) hv, by rw [run_equalIn_string _ d t s s h2]; simp⟩
    · rename_i b hd
      rw [hd] at h3
      have h4 : dd = .bool := by cases dd <;> simp_all [TD.of]
      subst h4
      exact ⟨part_scalar hok (by rw [hd]; rfl) hv, by simp [Op.equalIn, run_underlying h2]⟩
    · cases h
  · cases h
theorem eqFields_same (ok : TysOK P tys) (d : Nat) (xs : Array Value) : ∀ (fs : List Field), fs.all (fun f => match xs[f.offset]? with | some v => sameOK tys v f.type | none => false) = true → (Op.eqFields (d + 1) xs xs fs).run P w = .ok true w
  | [], _ => by simp [Op.eqFields]
  | f :: fs, h => by
    simp only [List.all_cons, Bool.and_eq_true] at h
    have ih := eqFields_same ok d xs fs h.2
    unfold Op.eqFields
    split
    · cases hv : xs[f.offset]? with
      | none => rw [hv] at h; cases h.1
      | some v =>
        rw [hv] at h
        obtain ⟨h1, h2⟩ := same_cell (w := w) ok h.1 d hv
        simp only [Sem.run_bind, h1, h2, Result.andThen_ok, Bool.not_true, Bool.false_eq_true, if_false, ih]
    · exact ih
theorem eq_same (ok : TysOK P tys) {t : TypeId} {fs : Array Field} {xs : Array Value} (hu : P.underlying t = some (.struct fs)) (hp : P.stoodInHeld t = false) (h : fs.toList.all (fun f => match xs[f.offset]? with | some v => sameOK tys v f.type | none => false) = true) : (Op.equal t (.agg xs) (.agg xs)).run P w = .ok true w := by
  have hf : P.fieldsOf t = fs := by simp [Program.fieldsOf, hu]
  show (Op.equalIn (9998 + 1 + 1) t (.agg xs) (.agg xs)).run P w = _
  rw [run_equalIn_struct (P := P) w (9998 + 1) t xs xs (by rw [hf]; exact hu) hp, hf]
  exact eqFields_same ok 9998 xs fs.toList h
end
section
variable {Γ : Ctx} {e : Env} {As : List Atom} {d : Option Tmp} {ty : TypeId} {pos : String} {af : Array Edge} {gd : Option (Nat × Bool)} {t : TypeId} {i : TyI}
theorem guard_agg {P : Program} (op : BinOp) (t : TypeId) (x y : Operand) (a b : Array Value) (w : World) (hg : P.eqGuardType P.depth t = false) : (eqGuard op t x y (.agg a) (.agg b)).run P w = .ok () w := by
  unfold eqGuard
  cases op <;> simp [hg]
theorem val_agg_eql_same {yt : TypeId} {x y : Operand} {vs : List Value} {fs : Array Field} (hx : ev e x = some (.agg vs.toArray)) (hy : ev e y = some (.agg vs.toArray)) (hu : Γ.P.underlying t = some (.struct fs)) (hp : Γ.P.stoodInHeld t = false) (hg : Γ.P.eqGuardType Γ.P.depth t = false)
    (h : fs.toList.all (fun f => match vs.toArray[f.offset]? with | some v => sameOK Γ.tys v f.type | none => false) = true) : Val Γ e As ⟨d, .binOp .eql t x y yt, ty, pos, af, gd⟩ (.bool true) :=
  val_bin hx hy (fun w => guard_agg _ _ _ _ _ _ w hg) fun w => by
    simp only [binOp, Sem.run_bind, eq_same Γ.ok hu hp h, Result.andThen_ok, Sem.run_pure]
theorem val_agg_neq_same {yt : TypeId} {x y : Operand} {vs : List Value} {fs : Array Field} (hx : ev e x = some (.agg vs.toArray)) (hy : ev e y = some (.agg vs.toArray)) (hu : Γ.P.underlying t = some (.struct fs)) (hp : Γ.P.stoodInHeld t = false) (hg : Γ.P.eqGuardType Γ.P.depth t = false)
    (h : fs.toList.all (fun f => match vs.toArray[f.offset]? with | some v => sameOK Γ.tys v f.type | none => false) = true) : Val Γ e As ⟨d, .binOp .neq t x y yt, ty, pos, af, gd⟩ (.bool false) :=
  val_bin hx hy (fun w => guard_agg _ _ _ _ _ _ w hg) fun w => by
    simp only [binOp, Sem.run_bind, eq_same Γ.ok hu hp h, Result.andThen_ok, Sem.run_pure]; rfl
end
end Go.Eng
