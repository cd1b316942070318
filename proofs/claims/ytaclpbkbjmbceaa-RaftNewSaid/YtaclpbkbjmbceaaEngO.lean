/-
  THE ENGINE's JOINS: where branches meet again.
-/
import Derived.Test.YtaclpbkbjmbceaaEngN
set_option linter.unusedVariables false
namespace Go.Eng
section
variable {Γ : Ctx} {e : Env} {As : List Atom} {Q : Exit → Act → World → Prop} {K0 : Act → World → Prop} {σ : Type}
theorem tc_cond_join (env : σ → Env) (at_ : σ → List Atom) (ok : σ → Prop) {c : Operand} {x y : Code} {b : Bool} (hc : ev e c = some (.bool b))
    (hx : b = true → ∀ J : Act → World → Prop, (∀ s, ok s → TK Γ J (env s) (at_ s)) → TC Γ (Exit.then J Q) x e As) (hy : b = false → ∀ J : Act → World → Prop, (∀ s, ok s → TK Γ J (env s) (at_ s)) → TC Γ (Exit.then J Q) y e As)
    (rest : ∀ s, ok s → TK Γ K0 (env s) (at_ s)) : TC Γ (Exit.then K0 Q) (.cond c x y) e As := tc_cond hc (fun h => hx h K0 rest) (fun h => hy h K0 rest)
theorem tc_block_join (env : σ → Env) (at_ : σ → List Atom) (ok : σ → Prop) {id : Nat} {c : Code}
    (body : ∀ J : Act → World → Prop, (∀ s, ok s → TK Γ J (env s) (at_ s)) → TC Γ (Exit.inBlock id (Exit.then J Q)) c e As)
    (rest : ∀ s, ok s → TK Γ K0 (env s) (at_ s)) : TC Γ (Exit.inBlock id (Exit.then K0 Q)) c e As := body K0 rest
end
end Go.Eng
