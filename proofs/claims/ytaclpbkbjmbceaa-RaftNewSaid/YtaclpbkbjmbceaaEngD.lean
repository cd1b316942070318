/-
  THE ENGINE's EFFECTS: new blocks, stores, slices made and appended to, calls; and what the remaining operations yield.
-/
import Derived.Test.YtaclpbkbjmbceaaEngC
set_option linter.unusedVariables false
set_option linter.unusedSimpArgs false
namespace Go.Eng
open Go.RowKit

theorem slice_of {P : Program} {t : TypeId} {i : TyI} {el : TypeId} (h : TyOK P t i) (hd : i.td = .slice el) : P.underlying t = some (.slice el) := by
  obtain ⟨dd, h2, h3⟩ := h.und
  rw [hd] at h3
  have h4 : dd = .slice el := by cases dd <;> simp_all [TD.of]
  rw [h2, h4]
theorem string_of {P : Program} {t : TypeId} {i : TyI} (h : TyOK P t i) (hd : i.td = .string) : P.underlying t = some .string := by
  obtain ⟨dd, h2, h3⟩ := h.und
  rw [hd] at h3
  have h4 : dd = .string := by cases dd <;> simp_all [TD.of]
  rw [h2, h4]
theorem int_of {P : Program} {t : TypeId} {i : TyI} {k : IntKind} (h : TyOK P t i) (hd : i.td = .int k) : P.underlying t = some (.int k) := by
  obtain ⟨dd, h2, h3⟩ := h.und
  rw [hd] at h3
  have h4 : dd = .int k := by cases dd <;> simp_all [TD.of]
  rw [h2, h4]

section
variable {Γ : Ctx} {e : Env} {As As' : List Atom} {d : Option Tmp} {ty : TypeId} {pos : String} {af : Array Edge} {gd : Option (Nat × Bool)} {t : TypeId} {i : TyI}

/-! ### 1. New blocks -/
def RNew (As : List Atom) (cs : List Value) (t : TypeId) (v : Value) (As' : List Atom) : Prop := ∃ b, v = .pointer (some ⟨b, 0, none⟩) ∧ As' = .blk b cs t :: As
theorem eff_alloc (ht : tfind Γ.tys t = some i) : Eff Γ e As ⟨d, .alloc t, ty, pos, af, gd⟩ (RNew As i.zero t) := .mk fun a w ha hw => by
  obtain ⟨z, h1, h2⟩ := run_zeroValue (Γ.ok t i ht) w
  have h3 : (execOp a.eval ⟨d, .alloc t, ty, pos, af, gd⟩).run Γ.P w = .ok (.value (.pointer (some ⟨w.heap.size, 0, none⟩))) (w.alloc (.cells z.cells t)) := by
    simp [execOp, Instr.alloc, h1, newVar, newRow]
  unfold wpR
  rw [h3]
  refine ⟨_, _, rfl, ⟨w.heap.size, rfl, rfl⟩, ?_⟩
  have := hw.alloc i.zero t
  rw [← h2] at this ⊢
  simpa using this
theorem eff_box {x : Operand} {v : Value} {cs : List Value} (hx : ev e x = some v) (hc : v.cells.toList = cs) : Eff Γ e As ⟨d, .box t x, ty, pos, af, gd⟩ (RNew As cs t) := .mk fun a w ha hw => by
  have h3 : (execOp a.eval ⟨d, .box t x, ty, pos, af, gd⟩).run Γ.P w = .ok (.value (.pointer (some ⟨w.heap.size, 0, none⟩))) (w.alloc (.cells v.cells t)) := by
    simp [execOp, Instr.box, ha.eval hx, newVar, newRow]
  unfold wpR
  rw [h3]
  refine ⟨_, _, rfl, ⟨w.heap.size, rfl, rfl⟩, ?_⟩
  have := hw.alloc cs t
  rw [← hc] at this ⊢
  simpa using this

/-! ### 2. Stores -/
def setL (cs : List Value) (k : Nat) : List Value → List Value
  | [] => cs
  | v :: r => setL (cs.set k v) (k + 1) r
theorem setL_length (cs : List Value) : ∀ (r : List Value) (k : Nat), (setL cs k r).length = cs.length := by
  intro r
  induction r generalizing cs with
  | nil => intro k; rfl
  | cons v r ih => intro k; simp [setL, ih]
theorem Rep.all {As1 As2 : List Atom} {A A' : Atom} (h : Rep As1 A A' As2) (A'' : Atom) : ∃ As3, Rep As1 A A'' As3 ∧ Rep As2 A' A'' As3 ∧ Rep As3 A'' A' As2 := by
  induction h with
  | @here A A' r => exact ⟨A'' :: r, .here, .here, .here⟩
  | @there A A' B r r' _ ih =>
    obtain ⟨As3, h1, h2, h3⟩ := ih
    exact ⟨B :: As3, .there h1, .there h2, .there h3⟩
theorem run_storeCells {P : Program} {w0 : World} {F0 : Nat → Prop} {g k : Nat} {u : TypeId} : ∀ (vs : List Value) (j : Nat) (cs : List Value) (As As' : List Atom) (w : World), HeapOK w0 F0 As w → Rep As (.blk g cs u) (.blk g (setL cs (k + j) vs) u) As' →
    k + j + vs.length ≤ cs.length → (∀ v ∈ vs, v.oneCell' = true) → ∃ w', (storeCells ⟨g, k, none⟩ vs j).run P w = .ok () w' ∧ HeapOK w0 F0 As' w'
  | [], j, cs, As, As', w, hw, hr, _, _ => by
    refine ⟨w, rfl, hw.rep hr rfl rfl rfl (Nat.le_refl _) (fun _ _ _ => rfl) (hw.ok _ hr.mem) fun k hk => ⟨.inl hk, (hw.dom _ hr.mem k hk).2⟩⟩
  | v :: vs, j, cs, As, As', w, hw, hr, hl, h1 => by
    simp only [List.length_cons] at hl
    obtain ⟨As2, hr1, _, hr3⟩ := hr.all (.blk g (cs.set (k + j) v) u)
    have hcell : w.cell? ((⟨g, k, none⟩ : Addr).add j) = cs[k + j]? := by
      rw [add_mk, cell_of_row w g (k + j) cs.toArray u (0, 0) (hw.ok _ hr.mem)]; simp
    have hfr : w.frozen? ((⟨g, k, none⟩ : Addr).add j) = false := by rw [add_mk]; exact frozen_of_row w g (k + j) cs.toArray u (hw.ok _ hr.mem)
    have hw2 := hw.store (k + j) v hr1
    obtain ⟨w', hr', hw'⟩ := run_storeCells (P := P) vs (j + 1) _ As2 As' _ hw2 hr3 (by rw [List.length_set]; omega) fun u hu => h1 u (List.mem_cons_of_mem _ hu)
    refine ⟨w', ?_, hw'⟩
    rw [storeCells, Sem.run_bind, run_store P w _ v .plain (h1 v List.mem_cons_self), hcell, List.getElem?_eq_getElem (by omega)]
    rw [add_mk] at hfr
    simp only [add_mk, hfr, Bool.false_eq_true, if_false, Result.andThen_ok]
    exact hr'
def RSet (As1 : List Atom) (v : Value) (As' : List Atom) : Prop := As' = As1
theorem run_storeVar {P : Program} (h : TyOK P t i) {w0 w : World} {F0 : Nat → Prop} {g k : Nat} {u : TypeId} {cs : List Value} {v : Value} {vs : List Value} (hw : HeapOK w0 F0 As w) (hv : v.cells.toList = vs) (hl : vs.length = i.size) (hr : Rep As (.blk g cs u) (.blk g (setL cs k vs) u) As')
    (hk : k + vs.length ≤ cs.length) (h1 : ∀ v ∈ vs, v.oneCell' = true) : ∃ w', (storeVar t ⟨g, k, none⟩ v).run P w = .ok () w' ∧ HeapOK w0 F0 As' w' := by
  obtain ⟨w', h2, h3⟩ := run_storeCells (P := P) vs 0 cs As As' w hw (by simpa using hr) (by omega) h1
  have h4 : v.cells.size = i.size := by rw [← Array.length_toList, hv, hl]
  exact ⟨w', by simp [storeVar, run_sizeOf h w, h4, hv, h2], h3⟩
theorem eff_store {x y : Operand} {g k : Nat} {u : TypeId} {cs cs' : List Value} {v : Value} (hx : ev e x = some (.pointer (some ⟨g, k, none⟩))) (hy : ev e y = some v) (ht : tfind Γ.tys t = some i) (h1 : v.oneCell' = true) (hs : i.size = 1)
    (hA : Has As (.blk g cs u)) (hk : Nat.blt k cs.length = true) (hc' : cs.set k v = cs') (hr : Rep As (.blk g cs u) (.blk g cs' u) As') : Eff Γ e As ⟨d, .store t x y, ty, pos, af, gd⟩ (RSet As') := .mk fun a w ha hw => by
  subst hc'
  have hk : k < cs.length := by simpa [Nat.blt_eq] using hk
  have hc : v.cells.toList = [v] := by cases v <;> simp_all [Value.cells, Value.oneCell']
  obtain ⟨w', h2, h3⟩ := run_storeVar (Γ.ok t i ht) hw hc (by simp [hs]) (vs := [v]) hr (by simp; omega) (by simpa using h1)
  have h4 : (execOp a.eval ⟨d, .store t x y, ty, pos, af, gd⟩).run Γ.P w = .ok .skip w' := by
    simp [execOp, Instr.storeAt, Instr.sureAddr, ha.eval hx, ha.eval hy, h2]
  unfold wpR
  rw [h4]
  exact ⟨_, _, rfl, rfl, h3⟩
def allOne : List Value → Bool
  | [] => true
  | v :: r => v.oneCell' && allOne r
theorem allOne_mem : ∀ {l : List Value}, allOne l = true → ∀ v ∈ l, v.oneCell' = true
  | [], _, v, hv => by cases hv
  | u :: r, h, v, hv => by
    simp only [allOne, Bool.and_eq_true] at h
    rcases List.mem_cons.1 hv with rfl | hv
    · exact h.1
    · exact allOne_mem h.2 v hv
theorem eff_store_agg {x y : Operand} {g k : Nat} {u : TypeId} {cs cs' vs : List Value} (hx : ev e x = some (.pointer (some ⟨g, k, none⟩))) (hy : ev e y = some (.agg vs.toArray)) (ht : tfind Γ.tys t = some i) (hs : i.size = vs.length) (h1 : allOne vs = true)
    (hA : Has As (.blk g cs u)) (hk : Nat.ble (k + vs.length) cs.length = true) (hc' : setL cs k vs = cs') (hr : Rep As (.blk g cs u) (.blk g cs' u) As') : Eff Γ e As ⟨d, .store t x y, ty, pos, af, gd⟩ (RSet As') := .mk fun a w ha hw => by
  subst hc'
  obtain ⟨w', h2, h3⟩ := run_storeVar (Γ.ok t i ht) hw (v := .agg vs.toArray) (vs := vs) (by simp [Value.cells]) hs.symm hr (by simpa [Nat.ble_eq] using hk) (allOne_mem h1)
  have h4 : (execOp a.eval ⟨d, .store t x y, ty, pos, af, gd⟩).run Γ.P w = .ok .skip w' := by
    simp [execOp, Instr.storeAt, Instr.sureAddr, ha.eval hx, ha.eval hy, h2]
  unfold wpR
  rw [h4]
  exact ⟨_, _, rfl, rfl, h3⟩

/-! ### 3. Calls -/
def okCall (P : Program) (f : FuncId) : Bool := match P.funcs[f]? with | some fn => fn.body.isSome && !(fn.name == "runtime.NumGoroutine") | none => false
theorem run_callFunc_ok {P : Program} {f : FuncId} (h : okCall P f = true) (args : Array Value) (w : World) : (callFunc f args).run P w = .ok (.enter f args) w := by
  unfold okCall at h
  cases hf : P.funcs[f]? with
  | none => rw [hf] at h; cases h
  | some fn =>
    simp only [hf, Bool.and_eq_true, Bool.not_eq_true'] at h
    have hb : fn.body.isNone = false := by cases hb : fn.body <;> simp_all
    unfold callFunc
    simp only [Sem.run_bind, run_program, Result.andThen_ok, hf, h.2, hb, Bool.false_eq_true, if_false, Sem.run_pure]
theorem eff_call {f : Operand} {fid : FuncId} {args : Array Operand} {ats : Array TypeId} {us xs ys : List Value} {R : Value → List Atom → Prop} (hf : ev e f = some (.func (.func fid) xs.toArray ys.toArray)) (hargs : evL e args.toList = some us) (hok : okCall Γ.P fid = true)
    (h : ∀ w, HeapOK Γ.w0 Γ.F0 As w → Calls Γ.P fid (xs ++ us ++ ys).toArray w fun e' w' => ∃ v As', e' = .returned v ∧ R v As' ∧ HeapOK Γ.w0 Γ.F0 As' w') :
    Eff Γ e As ⟨d, .call { callee := .value f, args := args, argTypes := ats }, ty, pos, af, gd⟩ R := .mk fun a w ha hw => by
  have h1 : args.map a.eval = us.toArray := by apply Array.ext'; rw [Array.toList_map, ha.evalL hargs]
  have h2 : (execOp a.eval ⟨d, .call { callee := .value f, args := args, argTypes := ats }, ty, pos, af, gd⟩).run Γ.P w = .ok (.enter fid (xs ++ us ++ ys).toArray) w := by
    simp only [execOp, resolve, ha.eval hf, h1, Deferred.ofValue, invoke, Sem.run_bind, Sem.run_pure, Result.andThen_ok]
    rw [run_callFunc_ok hok]
    simp
  unfold wpR
  rw [h2]
  exact (h w hw).mono fun e' w' ⟨v, As', he, hR, hh⟩ => ⟨v, he, v, As', rfl, hR, hh⟩
end

/-! ### 4. The caller's heap around a callee's -/
def fpAll : List Atom → Nat → Prop
  | [], _ => False
  | A :: r, k => A.fp k ∨ fpAll r k
theorem fpAll_mem {Bs : List Atom} {k : Nat} : fpAll Bs k ↔ ∃ B ∈ Bs, B.fp k := by
  induction Bs with
  | nil => simp [fpAll]
  | cons A r ih => simp [fpAll, ih]
section
variable {w0 w w' : World} {F0 : Nat → Prop} {As As' Bs Rs : List Atom}
theorem HeapOK.enterCall (h : HeapOK w0 F0 (Bs ++ Rs) w) : HeapOK w (fpAll Bs) Bs w :=
  ⟨rfl, rfl, rfl, Nat.le_refl _, fun _ _ _ => rfl, (List.pairwise_append.1 h.sep).1, fun A hA => h.ok A (List.mem_append_left _ hA), fun A hA k hk => ⟨.inl (fpAll_mem.2 ⟨A, hA, hk⟩), (h.dom A (List.mem_append_left _ hA) k hk).2⟩⟩
theorem HeapOK.leaveCall (h : HeapOK w0 F0 (Bs ++ Rs) w) (k : HeapOK w (fpAll Bs) As' w') : HeapOK w0 F0 (As' ++ Rs) w' := by
  obtain ⟨h1, h2, h3⟩ := List.pairwise_append.1 h.sep
  have hR : ∀ A ∈ Rs, ∀ j, A.fp j → ¬ fpAll Bs j := fun A hA j hj hB => by
    obtain ⟨B, hB1, hB2⟩ := fpAll_mem.1 hB
    exact h3 B hB1 A hA j hB2 hj
  have hRlt : ∀ A ∈ Rs, ∀ j, A.fp j → j < w.heap.size := fun A hA j hj => (h.dom A (List.mem_append_right _ hA) j hj).2
  have hF : ∀ j, fpAll Bs j → F0 j ∨ w0.heap.size ≤ j := fun j hB => by
    obtain ⟨B, hB1, hB2⟩ := fpAll_mem.1 hB
    exact (h.dom B (List.mem_append_left _ hB1) j hB2).1
  refine ⟨k.os.trans h.os, k.tape.trans h.tape, k.output.trans h.output, Nat.le_trans h.size k.size, fun j hj hF0 => ?_, ?_, fun A hA => ?_, fun A hA j hj => ?_⟩
  · refine (k.frame j (Nat.lt_of_lt_of_le hj h.size) fun hB => ?_).trans (h.frame j hj hF0)
    rcases hF j hB with h4 | h4
    · exact hF0 h4
    · omega
  · refine List.pairwise_append.2 ⟨k.sep, h2, fun A hA B hB j hjA hjB => ?_⟩
    rcases (k.dom A hA j hjA).1 with h4 | h4
    · exact hR B hB j hjB h4
    · have := hRlt B hB j hjB; omega
  · rcases List.mem_append.1 hA with hA | hA
    · exact k.ok A hA
    · exact A.local (fun j hj => k.frame j (hRlt A hA j hj) (hR A hA j hj)) (h.ok A (List.mem_append_right _ hA))
  · rcases List.mem_append.1 hA with hA | hA
    · obtain ⟨h4, h5⟩ := k.dom A hA j hj
      refine ⟨?_, h5⟩
      rcases h4 with h4 | h4
      · exact hF j h4
      · exact .inr (Nat.le_trans h.size h4)
    · exact ⟨(h.dom A (List.mem_append_right _ hA) j hj).1, Nat.lt_of_lt_of_le (hRlt A hA j hj) k.size⟩
/-- Bs taken out of As, Rs left. -/
inductive Rem : List Atom → Atom → List Atom → Prop where
  | here {A : Atom} {r : List Atom} : Rem (A :: r) A r
  | there {A B : Atom} {r r' : List Atom} : Rem r A r' → Rem (B :: r) A (B :: r')
theorem Rem.perm {As r : List Atom} {A : Atom} (h : Rem As A r) : As.Perm (A :: r) := by
  induction h with
  | here => exact List.Perm.refl _
  | there _ ih => exact (ih.cons _).trans (List.Perm.swap _ _ _)
inductive Pick : List Atom → List Atom → List Atom → Prop where
  | nil {As : List Atom} : Pick As [] As
  | take {As As1 Bs Rs : List Atom} {B : Atom} : Rem As B As1 → Pick As1 Bs Rs → Pick As (B :: Bs) Rs
theorem Pick.perm {As Bs Rs : List Atom} (h : Pick As Bs Rs) : As.Perm (Bs ++ Rs) := by
  induction h with
  | nil => exact List.Perm.refl _
  | take h1 _ ih => exact h1.perm.trans (ih.cons _)
/-- A callee, told by 'Meets' at its own atoms. -/
theorem call_meets {P : Program} {f : FuncId} {args : List Value} {R : Value → List Atom → Prop} (hp : Pick As Bs Rs) (hw : HeapOK w0 F0 As w) (h : HeapOK w (fpAll Bs) Bs w → Meets P f args w (fpAll Bs) R) :
    Calls P f args.toArray w fun e' w' => ∃ v As', e' = .returned v ∧ (∃ As1, R v As1 ∧ As' = As1 ++ Rs) ∧ HeapOK w0 F0 As' w' := by
  have hw' := hw.perm hp.perm
  exact Calls.mono (h hw'.enterCall) fun e' w' ⟨v, As1, he, hR, hh⟩ => ⟨v, As1 ++ Rs, he, ⟨As1, hR, rfl⟩, hw'.leaveCall hh⟩

theorem HeapOK.dropL (h : HeapOK w0 F0 (As ++ Bs) w) : HeapOK w0 F0 Bs w := h.mono (List.pairwise_append.1 h.sep).2.1 fun B hB => List.mem_append_right _ hB
/-- A call that is handed no atom and hands back a value alone. -/
theorem eff_call_pure {Γ : Ctx} {e : Env} {d : Option Tmp} {ty : TypeId} {pos : String} {af : Array Edge} {gd : Option (Nat × Bool)} {f : Operand} {fid : FuncId} {args : Array Operand} {ats : Array TypeId} {us xs ys : List Value} {r : Value} (hf : ev e f = some (.func (.func fid) xs.toArray ys.toArray)) (hargs : evL e args.toList = some us) (hok : okCall Γ.P fid = true)
    (h : ∀ w, HeapOK Γ.w0 Γ.F0 As w → Meets Γ.P fid (xs ++ us ++ ys) w (fpAll []) (fun v _ => v = r)) :
    Eff Γ e As ⟨d, .call { callee := .value f, args := args, argTypes := ats }, ty, pos, af, gd⟩ (fun v As' => v = r ∧ As' = As) :=
  eff_call hf hargs hok fun w hw => Calls.mono (call_meets Pick.nil hw fun _ => h w hw) fun e' w' ⟨v, As', he, ⟨As1, hR, hA⟩, hh⟩ => by subst hA; exact ⟨v, As, he, ⟨hR, rfl⟩, hh.dropL⟩

/-- What is read and is no part of what may be written. -/
def RdO (w : World) (F : Nat → Prop) (A : Option Addr) (s : Nat) (xs : List (List Value)) : Prop :=
  0 < xs.length → 0 < s ∧ ∃ b o, A = some ⟨b, o, none⟩ ∧ ¬ F b ∧ ∀ j c, xs[j]? = some c → c.length = s ∧ ∀ i u, c[i]? = some u → w.cell? ⟨b, o + j * s + i, none⟩ = some u
theorem RdO.rd {F : Nat → Prop} {A : Option Addr} {s : Nat} {xs : List (List Value)} (h : RdO w F A s xs) : Rd w A s xs := fun hn => by
  obtain ⟨_, b, o, h1, _, h2⟩ := h hn
  exact ⟨b, o, h1, h2⟩
theorem HeapOK.rd (h : HeapOK w0 F0 As w) {A : Option Addr} {s : Nat} {xs : List (List Value)} (hR : RdO w0 F0 A s xs) : Rd w A s xs := fun hn => by
  obtain ⟨hs, b, o, h1, h2, h3⟩ := hR hn
  refine ⟨b, o, h1, fun j c hj => ⟨(h3 j c hj).1, fun i u hu => ?_⟩⟩
  have h4 := (h3 j c hj).2 i u hu
  have hlt := World.block_lt_of_cell? w0 _ h4
  exact (World.cell?_of_block (w := w0) (w' := w) (a := ⟨b, o + j * s + i, none⟩) (h.frame b hlt h2)).trans h4
/-- .. for a callee that is handed Bs. -/
theorem HeapOK.rdo (h : HeapOK w0 F0 As w) (hp : Pick As Bs Rs) {A : Option Addr} {s : Nat} {xs : List (List Value)} (hR : RdO w0 F0 A s xs) : RdO w (fpAll Bs) A s xs := fun hn => by
  obtain ⟨hs, b, o, h1, h2, h3⟩ := hR hn
  obtain ⟨b', o', h4, h5⟩ := h.rd hR hn
  rw [h1] at h4
  injection h4 with h4
  injection h4 with e1 e2
  subst e1 e2
  refine ⟨hs, b, o, h1, fun hB => ?_, h5⟩
  obtain ⟨B, hB1, hB2⟩ := fpAll_mem.1 hB
  have hB3 : B ∈ As := (hp.perm.mem_iff).2 (List.mem_append_left _ hB1)
  rcases (h.dom B hB3 b hB2).1 with h6 | h6
  · exact h2 h6
  · have h7 : 0 < xs.length := hn
    have h8 : xs[0]? = some xs[0] := List.getElem?_eq_getElem h7
    obtain ⟨h9, h10⟩ := h3 0 _ h8
    have h11 : 0 < xs[0].length := by omega
    have h12 := h10 0 _ (List.getElem?_eq_getElem h11)
    have := World.block_lt_of_cell? w0 _ h12
    have h13 : b < w0.heap.size := this
    omega
theorem RdO.take {F : Nat → Prop} {A : Option Addr} {s : Nat} {xs : List (List Value)} (h : RdO w F A s xs) (n : Nat) : RdO w F A s (xs.take n) := fun hn => by
  obtain ⟨hs, b, o, rfl, h2, hc⟩ := h (by simp at hn; omega)
  refine ⟨hs, b, o, rfl, h2, fun j c hj => hc j c ?_⟩
  rw [List.getElem?_take] at hj
  split at hj
  · exact hj
  · cases hj
theorem RdO.drop {F : Nat → Prop} {A : Option Addr} {s : Nat} {xs : List (List Value)} (h : RdO w F A s xs) (n c : Nat) (hc : xs.length ≤ c) : RdO w F (if c = n then A else A.map (·.add (n * s))) s (xs.drop n) := fun hn => by
  obtain ⟨hs, b, o, rfl, h2, hcell⟩ := h (by simp at hn; omega)
  simp at hn
  rw [if_neg (by omega)]
  refine ⟨hs, b, o + n * s, by simp [add_mk], h2, fun j c hj => ?_⟩
  rw [List.getElem?_drop] at hj
  obtain ⟨h1, h2⟩ := hcell _ c hj
  refine ⟨h1, fun i u hu => ?_⟩
  have := h2 i u hu
  rw [show o + n * s + j * s + i = o + (n + j) * s + i by rw [Nat.add_mul]; omega]
  exact this
/-- A row of the caller's own that the callee is not handed: it may read it. -/
theorem HeapOK.rowRdO (h : HeapOK w0 F0 As w) (hp : Pick As Bs Rs) {A : Option Addr} {n c : Nat} {el : TypeId} {s : Nat} {xs : List (List Value)} (hs : 0 < s) (hA : Has Rs (.row (.slice A n c) el s xs)) : RdO w (fpAll Bs) A s xs := fun hn => by
  have hm : Atom.row (.slice A n c) el s xs ∈ As := (hp.perm.mem_iff).2 (List.mem_append_right _ hA.mem)
  obtain ⟨b, o, h1, h2⟩ := row_rd (h.ok _ hm) hn
  refine ⟨hs, b, o, h1, fun hB => ?_, h2⟩
  obtain ⟨B, hB1, hB2⟩ := fpAll_mem.1 hB
  subst h1
  exact (List.pairwise_append.1 (h.perm hp.perm).sep).2.2 B hB1 _ hA.mem b hB2 rfl
end
end Go.Eng
