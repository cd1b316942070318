/-
  THE ENGINE's RULES: regions, tests, loops, calls, what a function is entered with and what it hands back.
-/
import Derived.Test.YtaclpbkbjmbceaaEngB
import Derived.Deep.LoopGhost
set_option linter.unusedVariables false
set_option linter.unusedSimpArgs false
namespace Go.Eng
open Go.RowKit

/-! ### 1. Guards -/
structure Wanted (n : Nat) (ops : Array Oper) (e : Env) (o : Oper) : Prop where mk :: (h : ∀ a, EnvOK n e a → Region.wanted o (yielded ops a.tmps) = true)
structure Unwanted (n : Nat) (ops : Array Oper) (e : Env) (o : Oper) : Prop where mk :: (h : ∀ a, EnvOK n e a → Region.wanted o (yielded ops a.tmps) = false)
section
variable {n : Nat} {ops : Array Oper} {e : Env} {o : Oper}
theorem wanted_none (h : o.guard = none) : Wanted n ops e o := .mk fun a _ => by simp [Region.wanted, h]
theorem yielded_of {j t : Nat} {b : Bool} {a : Act} (ha : EnvOK n e a) (hd : (ops[j]?).bind (·.dst) = some t) (hv : efind e t = some (.bool b)) : yielded ops a.tmps j = some b := by
  have h1 := ha.get t _ hv
  unfold yielded
  rw [hd]
  cases h2 : a.tmps[t]? with
  | none => simp [h2, undef] at h1
  | some u =>
    simp [h2] at h1
    subst h1
    simp [h2]
theorem wanted_some {j t : Nat} {b : Bool} (h : o.guard = some (j, b)) (hd : (ops[j]?).bind (·.dst) = some t) (hv : efind e t = some (.bool b)) : Wanted n ops e o := .mk fun a ha => by
  simp [Region.wanted, h, yielded_of ha hd hv]
theorem unwanted_t {j t : Nat} (h : o.guard = some (j, true)) (hd : (ops[j]?).bind (·.dst) = some t) (hv : efind e t = some (.bool false)) : Unwanted n ops e o := .mk fun a ha => by
  simp [Region.wanted, h, yielded_of ha hd hv]
theorem unwanted_f {j t : Nat} (h : o.guard = some (j, false)) (hd : (ops[j]?).bind (·.dst) = some t) (hv : efind e t = some (.bool true)) : Unwanted n ops e o := .mk fun a ha => by
  simp [Region.wanted, h, yielded_of ha hd hv]
end

/-! ### 2. Judgements -/
structure TL (Γ : Ctx) (ops : Array Oper) (Q : Exit → Act → World → Prop) (rest : List Oper) (e : Env) (As : List Atom) : Prop where mk :: (h : ∀ a w, EnvOK Γ.n e a → HeapOK Γ.w0 Γ.F0 As w → wpList Γ.P ops Q rest a w)
structure TK (Γ : Ctx) (K : Act → World → Prop) (e : Env) (As : List Atom) : Prop where mk :: (h : ∀ a w, EnvOK Γ.n e a → HeapOK Γ.w0 Γ.F0 As w → K a w)
structure TC (Γ : Ctx) (Q : Exit → Act → World → Prop) (c : Code) (e : Env) (As : List Atom) : Prop where mk :: (h : ∀ a w, EnvOK Γ.n e a → HeapOK Γ.w0 Γ.F0 As w → c.wp Γ.P Q a w)
structure TM (Γ : Ctx) (ops : Array Oper) (A : Array Nat) (ex : List Nat) (Ac : List Atom) (Q : Act → World → Prop) (ord : List Nat) (e : Env) (As : List Atom) : Prop where
  mk :: (h : ∀ a w, EnvOK Γ.n e a → HeapOK Γ.w0 Γ.F0 As w → wpMix Γ.P ops A ex (HeapOK Γ.w0 Γ.F0 Ac) Q ord a w)
structure Ent (Γ : Ctx) (As Bs : List Atom) : Prop where mk :: (h : ∀ w, HeapOK Γ.w0 Γ.F0 As w → HeapOK Γ.w0 Γ.F0 Bs w)

section
variable {Γ : Ctx} {e e' : Env} {As As' Bs Ac : List Atom} {ops : Array Oper} {Q : Exit → Act → World → Prop} {K : Act → World → Prop} {rest : List Oper} {o : Oper}

theorem Ent.refl : Ent Γ As As := .mk fun _ h => h
theorem Ent.trans {Cs : List Atom} (h : Ent Γ As Bs) (k : Ent Γ Bs Cs) : Ent Γ As Cs := .mk fun w hw => k.h w (h.h w hw)
theorem Ent.drop {A : Atom} (h : Ent Γ As Bs) : Ent Γ (A :: As) Bs := .mk fun w hw => h.h w hw.drop1
theorem TK.weaken (h : TK Γ K e' Bs) (hs : Sub e e') (ha : Ent Γ As Bs) : TK Γ K e As := .mk fun a w he hw => h.h a w (he.sub hs) (ha.h w hw)
theorem TC.weaken {c : Code} (h : TC Γ Q c e' Bs) (hs : Sub e e') (ha : Ent Γ As Bs) : TC Γ Q c e As := .mk fun a w he hw => h.h a w (he.sub hs) (ha.h w hw)
theorem TL.weaken (h : TL Γ ops Q rest e' Bs) (hs : Sub e e') (ha : Ent Γ As Bs) : TL Γ ops Q rest e As := .mk fun a w he hw => h.h a w (he.sub hs) (ha.h w hw)

theorem tl_nil (h : TK Γ (Q .normal) e As) : TL Γ ops Q [] e As := .mk fun a w he hw => h.h a w he hw
theorem tl_val {d : Nat} {v : Value} (hw : Wanted Γ.n ops e o) (hv : Val Γ e As o v) (hdst : o.dst = some d) (hd : Nat.blt d Γ.n = true) (k : TL Γ ops Q rest ((d, v) :: e) As) : TL Γ ops Q (o :: rest) e As := .mk fun a w he hh => by
  unfold wpList
  rw [if_pos (hw.h a he)]
  refine .inl ?_
  unfold Oper.wp
  rw [hv.h a w he hh, Oper.upon_value, hdst]
  exact k.h _ w (he.put hd v) hh
theorem tl_eff {d : Nat} {R : Value → List Atom → Prop} (hw : Wanted Γ.n ops e o) (hv : Eff Γ e As o R) (hdst : o.dst = some d) (hd : Nat.blt d Γ.n = true) (k : ∀ v As', R v As' → TL Γ ops Q rest ((d, v) :: e) As') : TL Γ ops Q (o :: rest) e As := .mk fun a w he hh => by
  unfold wpList
  rw [if_pos (hw.h a he)]
  refine .inl (wp_of_wpR (wpR_mono ?_ (hv.h a w he hh)))
  rintro a' w' ⟨v, As', rfl, hR, hh'⟩
  rw [hdst]
  exact (k v As' hR).h _ w' (he.put hd v) hh'
theorem tl_eff_n {R : Value → List Atom → Prop} (hw : Wanted Γ.n ops e o) (hv : Eff Γ e As o R) (hdst : o.dst = none) (k : ∀ v As', R v As' → TL Γ ops Q rest e As') : TL Γ ops Q (o :: rest) e As := .mk fun a w he hh => by
  unfold wpList
  rw [if_pos (hw.h a he)]
  refine .inl (wp_of_wpR (wpR_mono ?_ (hv.h a w he hh)))
  rintro a' w' ⟨v, As', rfl, hR, hh'⟩
  rw [hdst]
  exact (k v As' hR).h _ w' he hh'
theorem tl_skip {d : Nat} (hw : Unwanted Γ.n ops e o) (hdst : o.dst = some d) (hd : Nat.blt d Γ.n = true) (k : TL Γ ops Q rest ((d, undef) :: e) As) : TL Γ ops Q (o :: rest) e As := .mk fun a w he hh => by
  unfold wpList
  rw [if_neg (by rw [hw.h a he]; simp), hdst]
  exact k.h _ w (he.put hd _) hh
theorem tl_skip_n (hw : Unwanted Γ.n ops e o) (hdst : o.dst = none) (k : TL Γ ops Q rest e As) : TL Γ ops Q (o :: rest) e As := .mk fun a w he hh => by
  unfold wpList
  rw [if_neg (by rw [hw.h a he]; simp), hdst]
  exact k.h _ w he hh
/-- A slot that holds a truth value: in two. -/
theorem tl_case {t : Nat} {b : Bool} (h : efind e t = some (.bool b)) (h1 : b = true → TL Γ ops Q rest ((t, .bool true) :: e) As) (h2 : b = false → TL Γ ops Q rest ((t, .bool false) :: e) As) : TL Γ ops Q rest e As := .mk fun a w he hh => by
  cases b with
  | true => exact (h1 rfl).h a w (he.sub (Sub.cons h Sub.refl)) hh
  | false => exact (h2 rfl).h a w (he.sub (Sub.cons h Sub.refl)) hh

/-- .. that a guard asks. -/
theorem tl_case_g {j t : Nat} {b want : Bool} (hg : o.guard = some (j, want)) (hd : (ops[j]?).bind (·.dst) = some t) (h : efind e t = some (.bool b)) (h1 : b = true → TL Γ ops Q (o :: rest) ((t, .bool true) :: e) As) (h2 : b = false → TL Γ ops Q (o :: rest) ((t, .bool false) :: e) As) : TL Γ ops Q (o :: rest) e As := tl_case h h1 h2

theorem tc_region {id : Nat} {l : List Oper} (h : TL Γ l.toArray Q l e As) : TC Γ Q (.region id l.toArray false) e As := .mk fun a w he hh => wp_region_lit (h.h a w he hh)
theorem tc_seq {x y : Code} (h : ∀ K : Act → World → Prop, (∀ e As, TC Γ Q y e As → TK Γ K e As) → TC Γ (Exit.then K Q) x e As) : TC Γ Q (.seq x y) e As := .mk fun a w he hh =>
  wp_seq ((h (fun a w => y.wp Γ.P Q a w) (fun _ _ hy => .mk hy.h)).h a w he hh)
theorem tc_cond {c : Operand} {x y : Code} {b : Bool} (hc : ev e c = some (.bool b)) (hx : b = true → TC Γ Q x e As) (hy : b = false → TC Γ Q y e As) : TC Γ Q (.cond c x y) e As := .mk fun a w he hh =>
  wp_cond_split (he.eval hc) (fun h => (hx h).h a w he hh) (fun h => (hy h).h a w he hh)
theorem tc_cond_t {c : Operand} {x y : Code} (hc : ev e c = some (.bool true)) (hx : TC Γ Q x e As) : TC Γ Q (.cond c x y) e As := tc_cond hc (fun _ => hx) (fun h => by cases h)
theorem tc_cond_f {c : Operand} {x y : Code} (hc : ev e c = some (.bool false)) (hy : TC Γ Q y e As) : TC Γ Q (.cond c x y) e As := tc_cond hc (fun h => by cases h) (fun _ => hy)
theorem tc_block {id : Nat} {c : Code} (h : TC Γ (Exit.inBlock id Q) c e As) : TC Γ Q (.block id c) e As := .mk fun a w he hh => wp_block (h.h a w he hh)
theorem tc_exit {id : Nat} (h : TK Γ (Q (.exit id)) e As) : TC Γ Q (.exit id) e As := .mk fun a w he hh => wp_exit (h.h a w he hh)
theorem tc_ret (h : TK Γ (Q .ret) e As) : TC Γ Q .ret e As := .mk fun a w he hh => wp_ret (h.h a w he hh)
theorem tc_skip (h : TK Γ (Q .normal) e As) : TC Γ Q .skip e As := .mk fun a w he hh => wp_skip (h.h a w he hh)
theorem tk_then_n (h : TK Γ K e As) : TK Γ (Exit.then K Q .normal) e As := .mk h.h
theorem tk_then_r (h : TK Γ (Q .ret) e As) : TK Γ (Exit.then K Q .ret) e As := .mk h.h
theorem tk_then_e {id : Nat} (h : TK Γ (Q (.exit id)) e As) : TK Γ (Exit.then K Q (.exit id)) e As := .mk h.h
theorem tk_block_n {id : Nat} (h : TK Γ (Q .normal) e As) : TK Γ (Exit.inBlock id Q .normal) e As := .mk h.h
theorem tk_block_r {id : Nat} (h : TK Γ (Q .ret) e As) : TK Γ (Exit.inBlock id Q .ret) e As := .mk h.h
theorem tk_block_hit {id : Nat} (h : TK Γ (Q .normal) e As) : TK Γ (Exit.inBlock id Q (.exit id)) e As := .mk fun a w he hh => by
  show (if id = id then _ else _); rw [if_pos rfl]; exact h.h a w he hh
theorem tk_block_miss {id id' : Nat} (hne : Nat.beq id' id = false) (h : TK Γ (Q (.exit id')) e As) : TK Γ (Exit.inBlock id Q (.exit id')) e As := .mk fun a w he hh => by
  show (if id' = id then _ else _); rw [if_neg (Nat.ne_of_beq_eq_false hne)]; exact h.h a w he hh
/-- A loop: a state, what holds of it, what it is as slots and atoms, a measure. -/
theorem tc_loop {σ : Type} {c : Code} (env : σ → Env) (at_ : σ → List Atom) (ok : σ → Prop) (μ : σ → Nat) (s0 : σ) (h0 : ok s0) (he0 : Sub e (env s0)) (ha0 : Ent Γ As (at_ s0))
    (round : ∀ s, ok s → ∀ K : Act → World → Prop, (∀ s', ok s' → μ s' < μ s → TK Γ K (env s') (at_ s')) → TC Γ (Exit.then K Q) c (env s) (at_ s)) : TC Γ Q (.loop c) e As := .mk fun a w he hh => by
  refine wp_loop_ghost (fun m a w => ∃ s, μ s = m ∧ ok s ∧ EnvOK Γ.n (env s) a ∧ HeapOK Γ.w0 Γ.F0 (at_ s) w) (μ s0) ⟨s0, rfl, h0, he.sub he0, ha0.h w hh⟩ ?_
  rintro m a w ⟨s, rfl, hs, hes, has⟩
  exact (round s hs _ (fun s' hs' hlt => .mk fun a' w' he' hh' => ⟨μ s', hlt, s', rfl, hs', he', hh'⟩)).h a w hes has

/-! ### 3. A region that draws -/
theorem tm_nil {A : Array Nat} {ex : List Nat} {Q : Act → World → Prop} (h : TK Γ Q e As) : TM Γ ops A ex Ac Q [] e As := .mk fun a w he hh => h.h a w he hh
section
variable {A : Array Nat} {ex r : List Nat} {i : Nat} {Qm : Act → World → Prop}
theorem tm_val {d : Nat} {v : Value} (ho : ops[i]? = some o) (hp : pinAt ops ex i = false) (hw : Wanted Γ.n ops e o) (hv : Val Γ e Ac o v) (hdst : o.dst = some d) (hd : Nat.blt d Γ.n = true) (k : TM Γ ops A ex Ac Qm r ((d, v) :: e) As) : TM Γ ops A ex Ac Qm (i :: r) e As := .mk fun a w he hh => by
  show mOp Γ.P ops A ex _ i _ a w
  unfold mOp
  simp only [ho, hp, if_false, Bool.false_eq_true]
  refine ⟨v, .inl ⟨hw.h a he, fun w' hw' => hv.h a w' he hw'⟩, ?_⟩
  rw [hdst]
  exact k.h _ w (he.put hd v) hh
theorem tm_skip {d : Nat} (ho : ops[i]? = some o) (hp : pinAt ops ex i = false) (hw : Unwanted Γ.n ops e o) (hdst : o.dst = some d) (hd : Nat.blt d Γ.n = true) (k : TM Γ ops A ex Ac Qm r ((d, undef) :: e) As) : TM Γ ops A ex Ac Qm (i :: r) e As := .mk fun a w he hh => by
  show mOp Γ.P ops A ex _ i _ a w
  unfold mOp
  simp only [ho, hp, if_false, Bool.false_eq_true]
  refine ⟨undef, .inr ⟨hw.h a he, rfl⟩, ?_⟩
  rw [hdst]
  exact k.h _ w (he.put hd _) hh
theorem tm_skip_p {d : Nat} (ho : ops[i]? = some o) (hp : pinAt ops ex i = true) (hw : Unwanted Γ.n ops e o) (hdst : o.dst = some d) (hd : Nat.blt d Γ.n = true) (k : TM Γ ops A ex Ac Qm r ((d, undef) :: e) As) : TM Γ ops A ex Ac Qm (i :: r) e As := .mk fun a w he hh => by
  show mOp Γ.P ops A ex _ i _ a w
  unfold mOp
  simp only [ho, hp, if_true, hw.h a he, if_false, Bool.false_eq_true]
  rw [hdst]
  exact k.h _ w (he.put hd _) hh
theorem tm_skip_pn (ho : ops[i]? = some o) (hp : pinAt ops ex i = true) (hw : Unwanted Γ.n ops e o) (hdst : o.dst = none) (k : TM Γ ops A ex Ac Qm r e As) : TM Γ ops A ex Ac Qm (i :: r) e As := .mk fun a w he hh => by
  show mOp Γ.P ops A ex _ i _ a w
  unfold mOp
  simp only [ho, hp, if_true, hw.h a he, if_false, Bool.false_eq_true]
  rw [hdst]
  exact k.h _ w he hh
theorem tm_eff {d : Nat} {R : Value → List Atom → Prop} (ho : ops[i]? = some o) (hp : pinAt ops ex i = true) (hw : Wanted Γ.n ops e o) (hv : Eff Γ e As o R) (hdst : o.dst = some d) (hd : Nat.blt d Γ.n = true)
    (k : ∀ v As', R v As' → (late ops A ex i = true → Ent Γ As' Ac) ∧ TM Γ ops A ex Ac Qm r ((d, v) :: e) As') : TM Γ ops A ex Ac Qm (i :: r) e As := .mk fun a w he hh => by
  show mOp Γ.P ops A ex _ i _ a w
  unfold mOp
  simp only [ho, hp, if_true, hw.h a he]
  refine wpR_mono ?_ (hv.h a w he hh)
  rintro a' w' ⟨v, As', rfl, hR, hh'⟩
  rw [hdst]
  exact ⟨fun hl => ((k v As' hR).1 hl).h w' hh', (k v As' hR).2.h _ w' (he.put hd v) hh'⟩
theorem tm_eff_n {R : Value → List Atom → Prop} (ho : ops[i]? = some o) (hp : pinAt ops ex i = true) (hw : Wanted Γ.n ops e o) (hv : Eff Γ e As o R) (hdst : o.dst = none)
    (k : ∀ v As', R v As' → (late ops A ex i = true → Ent Γ As' Ac) ∧ TM Γ ops A ex Ac Qm r e As') : TM Γ ops A ex Ac Qm (i :: r) e As := .mk fun a w he hh => by
  show mOp Γ.P ops A ex _ i _ a w
  unfold mOp
  simp only [ho, hp, if_true, hw.h a he]
  refine wpR_mono ?_ (hv.h a w he hh)
  rintro a' w' ⟨v, As', rfl, hR, hh'⟩
  rw [hdst]
  exact ⟨fun hl => ((k v As' hR).1 hl).h w' hh', (k v As' hR).2.h _ w' he hh'⟩
theorem tm_case {t : Nat} {b : Bool} (h : efind e t = some (.bool b)) (h1 : b = true → TM Γ ops A ex Ac Qm r ((t, .bool true) :: e) As) (h2 : b = false → TM Γ ops A ex Ac Qm r ((t, .bool false) :: e) As) : TM Γ ops A ex Ac Qm r e As := .mk fun a w he hh => by
  cases b with
  | true => exact (h1 rfl).h a w (he.sub (Sub.cons h Sub.refl)) hh
  | false => exact (h2 rfl).h a w (he.sub (Sub.cons h Sub.refl)) hh
theorem tm_case_g {j t : Nat} {b want : Bool} (ho : ops[i]? = some o) (hg : o.guard = some (j, want)) (hd : (ops[j]?).bind (·.dst) = some t) (h : efind e t = some (.bool b)) (h1 : b = true → TM Γ ops A ex Ac Qm (i :: r) ((t, .bool true) :: e) As) (h2 : b = false → TM Γ ops A ex Ac Qm (i :: r) ((t, .bool false) :: e) As) : TM Γ ops A ex Ac Qm (i :: r) e As := tm_case h h1 h2
theorem tm_weaken {Bs : List Atom} (h : TM Γ ops A ex Ac Qm r e' Bs) (hs : Sub e e') (ha : Ent Γ As Bs) : TM Γ ops A ex Ac Qm r e As := .mk fun a w he hw => h.h a w (he.sub hs) (ha.h w hw)
end
theorem tc_mix {id : Nat} {l : List Oper} (ex ord : List Nat) (Ac : List Atom) (hm : Γ.P.follows .mixedOrders = true)
    (hB : (Region.noSelect l.toArray && ord.length == l.length && chk l.toArray (cls l #[]) ex [] ord && (List.range l.length).all (fun k => ord.contains k)) = true) (hC : Ent Γ As Ac)
    (h : TM Γ l.toArray (cls l #[]) ex Ac (Q .normal) ord e As) : TC Γ Q (.region id l.toArray true) e As := .mk fun a w he hh =>
  wp_region_mix l ex ord _ hm hB (hC.h _ (hh.drawn _)) (h.h a _ he (hh.drawn _))

/-! ### 4. What a function is entered with, what it hands back -/
def argEnv : Nat → List Value → Env
  | _, [] => []
  | k, v :: r => (k, v) :: argEnv (k + 1) r
theorem argEnv_find : ∀ (l : List Value) (k d : Nat) (v : Value), efind (argEnv k l) d = some v → k ≤ d ∧ l[d - k]? = some v
  | [], k, d, v, h => by cases h
  | u :: r, k, d, v, h => by
    rw [argEnv, efind_cons] at h
    split at h
    · rename_i hk; subst hk; exact ⟨Nat.le_refl _, by simpa using h⟩
    · obtain ⟨h1, h2⟩ := argEnv_find r (k + 1) d v h
      refine ⟨by omega, ?_⟩
      rw [show d - k = (d - (k + 1)) + 1 by omega]
      simpa using h2
theorem env_start (args : List Value) (n : Nat) (h : args.length ≤ n) : EnvOK n (argEnv 0 args) { tmps := args.toArray ++ Array.replicate (n - args.toArray.size) undef, defers := [] } := by
  refine ⟨by simp; omega, rfl, fun d v hd => ?_⟩
  obtain ⟨_, h2⟩ := argEnv_find args 0 d v hd
  have h3 : d < args.length := by have := (List.getElem?_eq_some_iff.1 h2).1; omega
  simp only [Nat.sub_zero] at h2
  have h4 : args[d] = v := by rw [List.getElem?_eq_getElem h3] at h2; injection h2
  simp [Array.getElem?_append, h3, h4]

inductive ResOK (Γ : Ctx) (e : Env) (As : List Atom) : List ResultVar → List Value → Prop where
  | nil : ResOK Γ e As [] []
  | tmp {t : Nat} {v : Value} {rs : List ResultVar} {vs : List Value} (h : efind e t = some v) (k : ResOK Γ e As rs vs) : ResOK Γ e As (.tmp t :: rs) (v :: vs)
  | agg {p : Nat} {ty u : TypeId} {i : TyI} {g : Nat} {cs : List Value} {rs : List ResultVar} {vs : List Value} (h : efind e p = some (.pointer (some ⟨g, 0, none⟩))) (hA : Has As (.blk g cs u)) (ht : tfind Γ.tys ty = some i) (hs : i.td = .struct) (hl : cs.length = i.size) (k : ResOK Γ e As rs vs) : ResOK Γ e As (.cell p ty :: rs) (.agg cs.toArray :: vs)
  | scalar {p : Nat} {ty u : TypeId} {i : TyI} {g : Nat} {v : Value} {rs : List ResultVar} {vs : List Value} (h : efind e p = some (.pointer (some ⟨g, 0, none⟩))) (hA : Has As (.blk g [v] u)) (ht : tfind Γ.tys ty = some i) (hs : i.td.scalar = true) (k : ResOK Γ e As rs vs) : ResOK Γ e As (.cell p ty :: rs) (v :: vs)
def retV : List Value → Value
  | [v] => v
  | vs => .tuple vs.toArray
theorem mapM_cons_run {P : Program} {α β : Type} {f : α → Sem β} {x : α} {xs : List α} {y : β} {ys : List β} {w : World} (h : (f x).run P w = .ok y w) (k : (xs.mapM f).run P w = .ok ys w) : ((x :: xs).mapM f).run P w = .ok (y :: ys) w := by
  simp only [List.mapM_cons, Sem.run_bind, h, Result.andThen_ok, k, Sem.run_pure]
def resF (a : Act) : ResultVar → Sem Value
  | .tmp t => pure (a.tmps.getD t undef)
  | .cell p t => do loadVar t (← asAddr (a.tmps.getD p undef))
theorem res_run {rs : List ResultVar} {vs : List Value} {a : Act} {w : World} (he : EnvOK Γ.n e a) (hh : HeapOK Γ.w0 Γ.F0 As w) (h : ResOK Γ e As rs vs) : (rs.mapM (resF a)).run Γ.P w = .ok vs w := by
  induction h with
  | nil => simp
  | @tmp t v rs vs h k ih =>
    refine mapM_cons_run ?_ ih
    have := he.get t v h
    simp only [resF, Sem.run_pure, this]
  | @agg p ty u i g cs rs vs h hA ht hs hl k ih =>
    refine mapM_cons_run ?_ ih
    have h1 := he.get p _ h
    have h2 := run_loadVar_agg (Γ.ok ty i ht) hs g 0 cs w hl fun j u hu => by rw [hh.cell hA]; simpa using hu
    simp only [resF, Sem.run_bind, h1, asAddr, Sem.run_pure, Result.andThen_ok, h2]
  | @scalar p ty u i g v rs vs h hA ht hs k ih =>
    refine mapM_cons_run ?_ ih
    have h1 := he.get p _ h
    have h2 := run_loadVar_scalar (Γ.ok ty i ht) hs ⟨g, 0, none⟩ v w (by rw [hh.cell hA]; rfl)
    simp only [resF, Sem.run_bind, h1, asAddr, Sem.run_pure, Result.andThen_ok, h2]
theorem results_run {fn : Func} {rs : List ResultVar} {vs : List Value} {a : Act} {w : World} (hr : fn.results = rs.toArray) (he : EnvOK Γ.n e a) (hh : HeapOK Γ.w0 Γ.F0 As w) (h : ResOK Γ e As rs vs) : (results fn a.tmps).run Γ.P w = .ok (retV vs) w := by
  have h1 := res_run he hh h
  have h2 : results fn a.tmps = (do let vs ← fn.results.mapM (resF a); pure (if h : vs.size = 1 then vs[0] else .tuple vs)) := by
    unfold results resF
    rfl
  rw [h2, hr, List.mapM_toArray]
  simp only [Sem.run_bind, Sem.run_map, h1, Result.andThen_ok, Sem.run_pure]
  congr 1
  match vs with
  | [] => rfl
  | [v] => rfl
  | v :: u :: r => simp [retV]
theorem tk_ret {fn : Func} {rs : List ResultVar} {vs : List Value} {R : Ending → World → Prop} (hr : fn.results = rs.toArray) (hres : ResOK Γ e As rs vs) (k : ∀ w, HeapOK Γ.w0 Γ.F0 As w → R (.returned (retV vs)) w) : TK Γ (bodyPost Γ.P fn R .ret) e As := .mk fun a w he hh =>
  ⟨he.defers, retV vs, results_run hr he hh hres, k w hh⟩
theorem tk_end {fn : Func} {rs : List ResultVar} {vs : List Value} {R : Ending → World → Prop} (hr : fn.results = rs.toArray) (hres : ResOK Γ e As rs vs) (k : ∀ w, HeapOK Γ.w0 Γ.F0 As w → R (.returned (retV vs)) w) : TK Γ (bodyPost Γ.P fn R .normal) e As := .mk fun a w he hh =>
  ⟨he.defers, retV vs, results_run hr he hh hres, k w hh⟩

/-- What a call comes to, said of atoms: the caller's. -/
def Meets (P : Program) (f : FuncId) (args : List Value) (w : World) (F : Nat → Prop) (R : Value → List Atom → Prop) : Prop :=
  Calls P f args.toArray w fun e w' => ∃ v As', e = .returned v ∧ R v As' ∧ HeapOK w F As' w'
theorem Meets.mono {P : Program} {f : FuncId} {args : List Value} {w : World} {F : Nat → Prop} {R R' : Value → List Atom → Prop} (h : Meets P f args w F R) (k : ∀ v As, R v As → R' v As) : Meets P f args w F R' :=
  Calls.mono h fun _ _ ⟨v, As', he, hr, hh⟩ => ⟨v, As', he, k _ _ hr, hh⟩
theorem enter {P : Program} {tys : List (Nat × TyI)} (ok : TysOK P tys) {f : FuncId} {fn : Func} {c : Code} {args : List Value} {w : World} {F : Nat → Prop} {As : List Atom} {R : Value → List Atom → Prop} {n : Nat} (hf : P.funcs[f]? = some fn) (hb : fn.body = some c) (hn : fn.ntmps = n) (hl : Nat.ble args.length n = true)
    (H : HeapOK w F As w) (h : TC ⟨P, tys, ok, w, F, n⟩ (bodyPost P fn fun e w' => ∃ v As', e = .returned v ∧ R v As' ∧ HeapOK w F As' w') c (argEnv 0 args) As) : Meets P f args w F R := by
  refine calls_of_wp hf hb ?_
  subst hn
  exact h.h _ w (env_start args fn.ntmps (by simpa [Nat.ble_eq] using hl)) H
end
end Go.Eng
