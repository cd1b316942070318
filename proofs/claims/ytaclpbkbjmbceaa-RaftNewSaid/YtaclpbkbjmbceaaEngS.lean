/-
  THE ENGINE's SHORT FORMS, second part: calls, ways out, loops, joins, drawn regions; atoms taken together.
-/
import Derived.Test.YtaclpbkbjmbceaaEngR
import Derived.KernelRfl
set_option linter.unusedVariables false
set_option linter.unusedSimpArgs false
namespace Go.Eng
open Go.RowKit
/-! ### 1. Calls: P a value; E of a value something is known; N what is new stands ahead; O atoms are handed over -/
section
variable {Γ : Ctx} {e : Env} {As As' Bs Rs Ac : List Atom} {d : Option Tmp} {ty : TypeId} {pos : String} {af : Array Edge} {gd : Option (Nat × Bool)} {f : Operand} {fid : FuncId} {args : Array Operand} {ats : Array TypeId} {us xs ys : List Value}
theorem e_callP {r : Value} (hf : ev e f = some (.func (.func fid) xs.toArray ys.toArray)) (hargs : evL e args.toList = some us) (h : ∀ w, HeapOK Γ.w0 Γ.F0 As w → Meets Γ.P fid (xs ++ us ++ ys) w (fpAll []) (fun v _ => v = r)) [hok : OkC Γ.P fid] : Eff Γ e As ⟨d, .call { callee := .value f, args := args, argTypes := ats }, ty, pos, af, gd⟩ (fun v As' => v = r ∧ As' = As) := eff_call_pure hf hargs hok.h h
theorem e_callE {p : Value → Prop} (hf : ev e f = some (.func (.func fid) xs.toArray ys.toArray)) (hargs : evL e args.toList = some us) (h : ∀ w, HeapOK Γ.w0 Γ.F0 As w → Meets Γ.P fid (xs ++ us ++ ys) w (fpAll []) (fun v _ => p v)) [hok : OkC Γ.P fid] : Eff Γ e As ⟨d, .call { callee := .value f, args := args, argTypes := ats }, ty, pos, af, gd⟩ (fun v As' => p v ∧ As' = As) := eff_call_val hf hargs hok.h h
theorem e_callN {R : Value → List Atom → Prop} (hf : ev e f = some (.func (.func fid) xs.toArray ys.toArray)) (hargs : evL e args.toList = some us) (h : ∀ w, HeapOK Γ.w0 Γ.F0 As w → Meets Γ.P fid (xs ++ us ++ ys) w (fpAll []) R) [hok : OkC Γ.P fid] : Eff Γ e As ⟨d, .call { callee := .value f, args := args, argTypes := ats }, ty, pos, af, gd⟩ (fun v As' => ∃ As1, R v As1 ∧ As' = As1 ++ As) := eff_call_at hf hargs hok.h Pick.nil h
theorem e_callO {R : Value → List Atom → Prop} (Bs : List Atom) (hf : ev e f = some (.func (.func fid) xs.toArray ys.toArray)) (hargs : evL e args.toList = some us) [hp : PickC As Bs Rs] (h : ∀ w, HeapOK Γ.w0 Γ.F0 As w → HeapOK w (fpAll Bs) Bs w → Meets Γ.P fid (xs ++ us ++ ys) w (fpAll Bs) R) [hok : OkC Γ.P fid] : Eff Γ e As ⟨d, .call { callee := .value f, args := args, argTypes := ats }, ty, pos, af, gd⟩ (fun v As' => ∃ As1, R v As1 ∧ As' = As1 ++ Rs) := eff_call_own Bs hf hargs hok.h hp.h h
/-- What a contract leaves, forgotten but for the value. -/
theorem Meets.val {P : Program} {g : FuncId} {as : List Value} {w : World} {F : Nat → Prop} {p : Value → Prop} {R : Value → List Atom → Prop} (h : Meets P g as w F R) (k : ∀ v As, R v As → p v) : Meets P g as w F (fun v _ => p v) := h.mono k
end
/-! ### 2. Ways out, loops -/
section
variable {Γ : Ctx} {e e' : Env} {As As' Bs Rs Ac : List Atom} {ops : Array Oper} {Q : Exit → Act → World → Prop} {K : Act → World → Prop} {rest : List Oper} {fn : Func} {rs : List ResultVar} {vs : List Value} {v : Value} {R : Value → List Atom → Prop}
theorem a_ret (hr : fn.results = rs.toArray) (k : R v As) (hres : ResOK Γ e As rs vs := by repeat (first | exact ResOK.nil | apply ResOK.tmp rfl | apply ResOK.agg rfl (by repeat (first | exact Has.here | refine Has.there ?_)) (by exact rfl) (by exact rfl) (by exact rfl) | apply ResOK.scalar rfl (by repeat (first | exact Has.here | refine Has.there ?_)) (by exact rfl) (by exact rfl))) (hv : retV vs = v := by dsimp only [retV] <;> exact rfl) :
    TK Γ (bodyPost Γ.P fn (fun e w' => ∃ v As', e = .returned v ∧ R v As' ∧ HeapOK Γ.w0 Γ.F0 As' w') .ret) e As := tk_ret hr hres fun w hw => ⟨v, As, by rw [hv], k, hw⟩
theorem a_end (hr : fn.results = rs.toArray) (k : R v As) (hres : ResOK Γ e As rs vs := by repeat (first | exact ResOK.nil | apply ResOK.tmp rfl | apply ResOK.agg rfl (by repeat (first | exact Has.here | refine Has.there ?_)) (by exact rfl) (by exact rfl) (by exact rfl) | apply ResOK.scalar rfl (by repeat (first | exact Has.here | refine Has.there ?_)) (by exact rfl) (by exact rfl))) (hv : retV vs = v := by dsimp only [retV] <;> exact rfl) :
    TK Γ (bodyPost Γ.P fn (fun e w' => ∃ v As', e = .returned v ∧ R v As' ∧ HeapOK Γ.w0 Γ.F0 As' w') .normal) e As := tk_end hr hres fun w hw => ⟨v, As, by rw [hv], k, hw⟩
theorem a_retP (Bs : List Atom) (hr : fn.results = rs.toArray) (k : R v Bs) [hp : PickC As Bs Rs] (hres : ResOK Γ e As rs vs := by repeat (first | exact ResOK.nil | apply ResOK.tmp rfl | apply ResOK.agg rfl (by repeat (first | exact Has.here | refine Has.there ?_)) (by exact rfl) (by exact rfl) (by exact rfl) | apply ResOK.scalar rfl (by repeat (first | exact Has.here | refine Has.there ?_)) (by exact rfl) (by exact rfl))) (hv : retV vs = v := by dsimp only [retV] <;> exact rfl) :
    TK Γ (bodyPost Γ.P fn (fun e w' => ∃ v As', e = .returned v ∧ R v As' ∧ HeapOK Γ.w0 Γ.F0 As' w') .ret) e As := tk_ret hr hres fun w hw => ⟨v, Bs, by rw [hv], k, hw.pick hp.h⟩
theorem a_endP (Bs : List Atom) (hr : fn.results = rs.toArray) (k : R v Bs) [hp : PickC As Bs Rs] (hres : ResOK Γ e As rs vs := by repeat (first | exact ResOK.nil | apply ResOK.tmp rfl | apply ResOK.agg rfl (by repeat (first | exact Has.here | refine Has.there ?_)) (by exact rfl) (by exact rfl) (by exact rfl) | apply ResOK.scalar rfl (by repeat (first | exact Has.here | refine Has.there ?_)) (by exact rfl) (by exact rfl))) (hv : retV vs = v := by dsimp only [retV] <;> exact rfl) :
    TK Γ (bodyPost Γ.P fn (fun e w' => ∃ v As', e = .returned v ∧ R v As' ∧ HeapOK Γ.w0 Γ.F0 As' w') .normal) e As := tk_end hr hres fun w hw => ⟨v, Bs, by rw [hv], k, hw.pick hp.h⟩
theorem a_weak (h : TK Γ K e' Bs) (hs : Sub e e' := by repeat (first | exact Sub.nil | apply Sub.cons rfl)) (ha : Ent Γ As Bs := by first | exact Ent.refl | exact Ent.pick PickC.h) : TK Γ K e As := h.weaken hs ha
theorem a_loop {σ : Type} {c : Code} (env : σ → Env) (at_ : σ → List Atom) (ok : σ → Prop) (μ : σ → Nat) (s0 : σ) (h0 : ok s0) (round : ∀ s, ok s → ∀ K : Act → World → Prop, (∀ s', ok s' → μ s' < μ s → TK Γ K (env s') (at_ s')) → TC Γ (Exit.then K Q) c (env s) (at_ s))
    (he0 : Sub e (env s0) := by repeat (first | exact Sub.nil | apply Sub.cons rfl)) (ha0 : Ent Γ As (at_ s0) := by first | exact Ent.refl | exact Ent.pick PickC.h) : TC Γ Q (.loop c) e As := tc_loop env at_ ok μ s0 h0 he0 ha0 round
/-! ### 3. Drawn regions -/
class MixC (P : Program) : Prop where
  h : P.follows .mixedOrders = true
theorem a_mix {id : Nat} {l : List Oper} (ord : List Nat) (h : TM Γ l.toArray (cls l #[]) [] As (Q .normal) ord e As) [hm : MixC Γ.P] (hB : (Region.noSelect l.toArray && ord.length == l.length && chk l.toArray (cls l #[]) [] [] ord && (List.range l.length).all (fun k => ord.contains k)) = true := by kernel_rfl) : TC Γ Q (.region id l.toArray true) e As := tc_mix [] ord As hm.h hB Ent.refl h
theorem a_mixC {id : Nat} {l : List Oper} (ex ord : List Nat) (Ac : List Atom) (h : TM Γ l.toArray (cls l #[]) ex Ac (Q .normal) ord e As) [hm : MixC Γ.P] [hp : PickC As Ac Rs] (hB : (Region.noSelect l.toArray && ord.length == l.length && chk l.toArray (cls l #[]) ex [] ord && (List.range l.length).all (fun k => ord.contains k)) = true := by kernel_rfl) : TC Γ Q (.region id l.toArray true) e As := tc_mix ex ord Ac hm.h hB (Ent.pick hp.h) h
theorem m_go {A : Array Nat} {ex : List Nat} {i : Nat} {p : Prop} (h : p) (hE : late ops A ex i = true → Ent Γ As' Ac := by first | exact fun h => absurd h (by decide) | exact fun _ => Ent.refl | exact fun _ => Ent.pick PickC.h) : (late ops A ex i = true → Ent Γ As' Ac) ∧ p := ⟨hE, h⟩
end
/-! ### 4. Atoms taken together -/
def Sep (Bs : List Atom) : Prop := Bs.Pairwise fun A B => ∀ k, A.fp k → ¬ B.fp k
def many (Bs : List Atom) : Atom := .gen (fpAll Bs) (fun w => (∀ B ∈ Bs, B.ok w) ∧ Sep Bs)
section
variable {w0 w : World} {F0 : Nat → Prop} {As Bs Rs : List Atom}
theorem fpAll_append {k : Nat} : fpAll (As ++ Bs) k ↔ fpAll As k ∨ fpAll Bs k := by
  induction As with
  | nil => simp [fpAll]
  | cons A r ih => simp [fpAll, ih, or_assoc]
theorem HeapOK.mk_many (h : HeapOK w0 F0 (Bs ++ Rs) w) : HeapOK w0 F0 (many Bs :: Rs) w := by
  obtain ⟨h1, h2, h3⟩ := List.pairwise_append.1 h.sep
  refine ⟨h.os, h.tape, h.output, h.size, h.frame, List.pairwise_cons.2 ⟨fun C hC k hk hk' => ?_, h2⟩, fun C hC => ?_, fun C hC k hk => ?_⟩
  · obtain ⟨B, hB1, hB2⟩ := fpAll_mem.1 hk
    exact h3 B hB1 C hC k hB2 hk'
  · rcases List.mem_cons.1 hC with rfl | hC
    · exact fun w' hw' => ⟨fun B hB => B.local (fun k hk => hw' k (fpAll_mem.2 ⟨B, hB, hk⟩)) (h.ok B (List.mem_append_left _ hB)), h1⟩
    · exact h.ok C (List.mem_append_right _ hC)
  · rcases List.mem_cons.1 hC with rfl | hC
    · obtain ⟨B, hB1, hB2⟩ := fpAll_mem.1 hk
      exact h.dom B (List.mem_append_left _ hB1) k hB2
    · exact h.dom C (List.mem_append_right _ hC) k hk
theorem HeapOK.un_many (h : HeapOK w0 F0 (many Bs :: Rs) w) : HeapOK w0 F0 (Bs ++ Rs) w := by
  obtain ⟨h1, h2⟩ := List.pairwise_cons.1 h.sep
  obtain ⟨h3, h4⟩ := (h.ok _ List.mem_cons_self) w fun _ _ => rfl
  refine ⟨h.os, h.tape, h.output, h.size, h.frame, List.pairwise_append.2 ⟨h4, h2, fun A hA B hB k hk hk' => h1 B hB k (fpAll_mem.2 ⟨A, hA, hk⟩) hk'⟩, fun C hC => ?_, fun C hC k hk => ?_⟩
  · rcases List.mem_append.1 hC with hC | hC
    · exact h3 C hC
    · exact h.ok C (List.mem_cons_of_mem _ hC)
  · rcases List.mem_append.1 hC with hC | hC
    · exact h.dom _ List.mem_cons_self k (fpAll_mem.2 ⟨C, hC, hk⟩)
    · exact h.dom C (List.mem_cons_of_mem _ hC) k hk
theorem HeapOK.fp_eq {F1 : Nat → Prop} (h : HeapOK w0 F0 As w) (hF : ∀ k, F0 k ↔ F1 k) : HeapOK w0 F1 As w := by
  have : F0 = F1 := funext fun k => propext (hF k)
  rwa [← this]
end
section
variable {Γ : Ctx} {e : Env} {As Bs Rs : List Atom} {ops : Array Oper} {Q : Exit → Act → World → Prop} {K : Act → World → Prop} {rest : List Oper}
theorem Ent.mk_many : Ent Γ (Bs ++ Rs) (many Bs :: Rs) := .mk fun w hw => hw.mk_many
theorem Ent.un_many : Ent Γ (many Bs :: Rs) (Bs ++ Rs) := .mk fun w hw => hw.un_many
end
end Go.Eng
