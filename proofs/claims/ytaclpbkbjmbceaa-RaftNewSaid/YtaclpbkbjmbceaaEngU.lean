/-
  THE ENGINE's SHORT FORMS, fourth part: slices held against nil, empty ones built, what stands in a block read as a slice of one; what a library's slices want.
-/
import Derived.Test.YtaclpbkbjmbceaaEngT
set_option linter.unusedVariables false
set_option linter.unusedSimpArgs false
namespace Go.Eng
open Go.RowKit
section
variable {Γ : Ctx} {e : Env} {As Bs Rs : List Atom} {d : Option Tmp} {ty : TypeId} {pos : String} {af : Array Edge} {gd : Option (Nat × Bool)} {t t2 el : TypeId} {i i2 ie : TyI} {x y : Operand} {v : Value} {A D : Option Addr} {ln c : Nat} {ats : Array TypeId} {xt yt : TypeId}
theorem run_eq_nil {P : Program} {xt : TypeId} {ix : TyI} {el : TypeId} (ht : TyOK P xt ix) (hb : ix.td = .slice el) (A : Option Addr) (n c : Nat) (w : World) : (Op.equal xt (.slice A n c) (.slice none 0 0)).run P w = .ok A.isNone w := by
  have h2 := slice_of ht hb
  have : ∀ d, (Op.equalIn (d + 1) xt (.slice A n c) (.slice none 0 0)).run P w = .ok A.isNone w := fun d => by
    simp only [Op.equalIn, Sem.run_bind, run_underlying h2, Result.andThen_ok]
    cases A <;> simp
  exact this 9999
theorem guard_slice {P : Program} (op : BinOp) (xt : TypeId) (x y : Operand) (a b : Option Addr) (n m c c' : Nat) (w : World) : (eqGuard op xt x y (.slice a n c) (.slice b m c')).run P w = .ok () w := by
  unfold eqGuard
  cases op <;> simp
theorem v_isNil {ix : TyI} (hx : ev e x = some (.slice A ln c) := by exact rfl) (hy : ev e y = some (.slice none 0 0) := by exact rfl) (ht : tfind Γ.tys xt = some ix := by exact rfl) (hb : ix.td = .slice el := by exact rfl) : Val Γ e As ⟨d, .binOp .eql xt x y yt, ty, pos, af, gd⟩ (.bool A.isNone) :=
  val_bin hx hy (fun w => guard_slice _ _ _ _ _ _ _ _ _ _ w) fun w => by
    simp only [binOp, Sem.run_bind, run_eq_nil (Γ.ok xt ix ht) hb, Result.andThen_ok, Sem.run_pure]
theorem v_notNil {ix : TyI} (hx : ev e x = some (.slice A ln c) := by exact rfl) (hy : ev e y = some (.slice none 0 0) := by exact rfl) (ht : tfind Γ.tys xt = some ix := by exact rfl) (hb : ix.td = .slice el := by exact rfl) : Val Γ e As ⟨d, .binOp .neq xt x y yt, ty, pos, af, gd⟩ (.bool (!A.isNone)) :=
  val_bin hx hy (fun w => guard_slice _ _ _ _ _ _ _ _ _ _ w) fun w => by
    simp only [binOp, Sem.run_bind, run_eq_nil (Γ.ok xt ix ht) hb, Result.andThen_ok, Sem.run_pure]
theorem eff_buildSlice0 (ht : tfind Γ.tys t = some i) (hd : i.td = .slice el) (he : tfind Γ.tys el = some ie) :
    Eff Γ e As ⟨d, .buildSlice t 0 #[], ty, pos, af, gd⟩ (fun v As' => ∃ b, v = .slice (some ⟨b, 0, none⟩) 0 0 ∧ As' = .row (.slice (some ⟨b, 0, none⟩) 0 0) el ie.size [] :: As) := .mk fun a w ha hw => by
  have h8 : (execOp a.eval ⟨d, .buildSlice t 0 #[], ty, pos, af, gd⟩).run Γ.P w = .ok (.value (.slice (some ⟨w.heap.size, 0, none⟩) 0 0)) (w.alloc (.cells #[] el)) := by
    simp [execOp, Instr.buildSlice, run_underlying (slice_of (Γ.ok t i ht) hd), run_sizeOf (Γ.ok el ie he), Instr.fill, newRow]
    congr 2
    exact Array.ext (by simp) fun j hj _ => by simp at hj
  unfold wpR
  rw [h8]
  refine ⟨_, _, rfl, ⟨w.heap.size, rfl, rfl⟩, ?_⟩
  refine HeapOK.push (w' := w.alloc (.cells #[] el)) hw (A := .row (.slice (some ⟨w.heap.size, 0, none⟩) 0 0) el ie.size []) ((Below.refl _ _).alloc (Nat.le_refl _) _) ⟨⟨by simp, .inr ⟨w.heap.size, 0, #[], by rfl, Nat.zero_le _, heap_alloc_new w _, by simp, Nat.zero_le _, by simp, by simp⟩⟩, fun c hc => by cases hc⟩ fun q hq => ?_
  have hq : some w.heap.size = some q := hq
  injection hq with hq
  subst hq
  simp
theorem e_buildSlice0 (ht : tfind Γ.tys t = some i := by exact rfl) (hd : i.td = .slice el := by exact rfl) (he : tfind Γ.tys el = some ie := by exact rfl) :
    Eff Γ e As ⟨d, .buildSlice t 0 #[], ty, pos, af, gd⟩ (fun v As' => ∃ b, v = .slice (some ⟨b, 0, none⟩) 0 0 ∧ As' = .row (.slice (some ⟨b, 0, none⟩) 0 0) el ie.size [] :: As) := eff_buildSlice0 ht hd he
theorem a_join {ops : Array Oper} {Q : Exit → Act → World → Prop} {rest : List Oper} (k : Nat) (e1 : Env) (Cs : List Atom) (main : TL Γ ops Q (rest.drop k) e1 Cs → TL Γ ops Q rest e As) (j : TL Γ ops Q (rest.drop k) e1 Cs) : TL Γ ops Q rest e As := main j
theorem a_castC {Q : Exit → Act → World → Prop} {cd : Code} {Cs : List Atom} (h : TC Γ Q cd e Cs) (he : As = Cs := by exact rfl) : TC Γ Q cd e As := he ▸ h
theorem a_castL {ops : Array Oper} {Q : Exit → Act → World → Prop} {rest : List Oper} {Cs : List Atom} (h : TL Γ ops Q rest e Cs) (he : As = Cs := by exact rfl) : TL Γ ops Q rest e As := he ▸ h
theorem a_castK {K : Act → World → Prop} {Cs : List Atom} (h : TK Γ K e Cs) (he : As = Cs := by exact rfl) : TK Γ K e As := he ▸ h
theorem a_weakL {ops : Array Oper} {Q : Exit → Act → World → Prop} {rest : List Oper} {e' : Env} {Cs : List Atom} (h : TL Γ ops Q rest e' Cs) (hs : Sub e e' := by repeat (first | exact Sub.nil | apply Sub.cons rfl)) (ha : Ent Γ As Cs := by first | exact Ent.refl | exact Ent.pick PickC.h) : TL Γ ops Q rest e As := h.weaken hs ha
/-- A slice of several. -/
def fillE (s : Nat) : List Value → List (Nat × Value) → Option (List Value)
  | cs, [] => some cs
  | cs, (k, v) :: r => cond (Nat.beq v.cells.toList.length s && Nat.ble (k * s + s) cs.length) (fillE s (setL cs (k * s) v.cells.toList) r) none
theorem fillE_eq {s : Nat} : ∀ (ps : List (Nat × Value)) (cs vs : List Value), fillE s cs ps = some vs → Instr.fill (fun i => some (i * s, s)) cs.toArray ps = some vs.toArray
  | [], cs, vs, h => by simp [fillE] at h; simp [Instr.fill, h]
  | (k, v) :: r, cs, vs, h => by
    unfold fillE at h
    cases hb : (Nat.beq v.cells.toList.length s && Nat.ble (k * s + s) cs.length) with
    | false => rw [hb] at h; cases h
    | true =>
      rw [hb] at h
      simp only [Bool.and_eq_true, Nat.ble_eq] at hb
      have h1 := Nat.eq_of_beq_eq_true hb.1
      have ih := fillE_eq r _ _ h
      have h2 : v.cells.size = s := by rw [← Array.length_toList]; exact h1
      have h5 : v.cells.zipIdx.foldl (fun (cs : Array Value) (p : Value × Nat) => cs.setIfInBounds (k * s + p.2) p.1) cs.toArray = (setL cs (k * s) v.cells.toList).toArray := by
        rw [← Array.foldl_toList, Array.toList_zipIdx]
        exact foldl_set v.cells.toList (k * s) 0 cs
      have h6 : ¬ (v.cells.size ≠ s || decide (k * s + v.cells.size > cs.toArray.size)) = true := by simp [h2]; omega
      simp only [Instr.fill]
      rw [if_neg h6, h5]
      exact ih
theorem eff_buildSliceN {n : Nat} {ps : Array (Nat × Operand)} {pvs : List (Nat × Value)} {cs : List Value} (hp : evP e ps.toList = some pvs) (ht : tfind Γ.tys t = some i) (hd : i.td = .slice el) (he : tfind Γ.tys el = some ie) (hz : Nat.beq ie.zero.length ie.size = true) (hs : Nat.blt 0 ie.size = true) (hn : Nat.blt 0 n = true) (hl : Nat.ble (n * ie.size) 100000 = true) (hc : fillE ie.size (List.replicate n ie.zero).flatten pvs = some cs) :
    Eff Γ e As ⟨d, .buildSlice t n ps, ty, pos, af, gd⟩ (fun v As' => ∃ b, v = .slice (some ⟨b, 0, none⟩) n n ∧ As' = .blk b cs el :: As) := .mk fun a w ha hw => by
  have hz := Nat.eq_of_beq_eq_true hz
  have hs : 0 < ie.size := by simpa [Nat.blt_eq] using hs
  have hn : 0 < n := by simpa [Nat.blt_eq] using hn
  have hl : n * ie.size ≤ 100000 := by simpa [Nat.ble_eq] using hl
  obtain ⟨z, h1, h2⟩ := run_zeroValue (Γ.ok el ie he) w
  have h3 : z.cells.size = ie.size := by rw [← Array.length_toList, h2, hz]
  have hne : ¬ n * ie.size = 0 := by have := Nat.mul_pos hn hs; omega
  have hrow : ((Array.range (n * ie.size)).map (fun j => z.cells[j % z.cells.size]!)) = ((List.replicate n ie.zero).flatten).toArray := by
    have := range_zeros z.cells n
    rw [h3, h2] at this
    rw [h3]
    apply Array.ext'
    simpa using this
  have hps : (ps.map fun p => (p.1, a.eval p.2)).toList = pvs := by rw [Array.toList_map]; exact ha.evalP hp
  have hf := fillE_eq pvs _ _ hc
  have h8 : (execOp a.eval ⟨d, .buildSlice t n ps, ty, pos, af, gd⟩).run Γ.P w = .ok (.value (.slice (some ⟨w.heap.size, 0, none⟩) n n)) (w.alloc (.cells cs.toArray el)) := by
    have hg : ¬ (2 ^ 24 < n * ie.size) := by omega
    simp only [execOp, Instr.buildSlice, Sem.run_bind, run_underlying (slice_of (Γ.ok t i ht) hd), run_sizeOf (Γ.ok el ie he), Result.andThen_ok]
    simp only [gt_iff_lt, hg, if_false, hne, Sem.run_bind, h1, Result.andThen_ok, Sem.run_pure, hrow, hps, hf]
    simp [newRow]
  unfold wpR
  rw [h8]
  exact ⟨_, _, rfl, ⟨w.heap.size, rfl, rfl⟩, hw.alloc cs el⟩
theorem e_buildSliceN {n : Nat} {ps : Array (Nat × Operand)} {pvs : List (Nat × Value)} {cs : List Value} (hp : evP e ps.toList = some pvs := by exact rfl) (ht : tfind Γ.tys t = some i := by exact rfl) (hd : i.td = .slice el := by exact rfl) (he : tfind Γ.tys el = some ie := by exact rfl) (hz : Nat.beq ie.zero.length ie.size = true := by exact rfl) (hs : Nat.blt 0 ie.size = true := by exact rfl) (hn : Nat.blt 0 n = true := by exact rfl) (hl : Nat.ble (n * ie.size) 100000 = true := by exact rfl) (hc : fillE ie.size (List.replicate n ie.zero).flatten pvs = some cs := by exact rfl) :
    Eff Γ e As ⟨d, .buildSlice t n ps, ty, pos, af, gd⟩ (fun v As' => ∃ b, v = .slice (some ⟨b, 0, none⟩) n n ∧ As' = .blk b cs el :: As) := eff_buildSliceN hp ht hd he hz hs hn hl hc
/-- append(s, x) of what is some a's cells. -/
theorem e_appendM {α : Type} {enc : α → List Value} {l : List α} {g : Nat} {u : TypeId} (a : α) (hx : ev e x = some v := by exact rfl) (hy : ev e y = some (.slice (some ⟨g, 0, none⟩) 1 1) := by exact rfl) (hat : ats = #[t, t] := by exact rfl) (ht : tfind Γ.tys t = some i := by exact rfl) (hd : i.td = .slice el := by exact rfl) (he : tfind Γ.tys el = some ie := by exact rfl) (hz : Nat.beq ie.zero.length ie.size = true := by exact rfl) (hp : Nat.blt 0 ie.size = true := by exact rfl)
    (hr : Rem As (.row v el ie.size (l.map enc)) Rs := by repeat (first | exact Rem.here | apply Rem.there)) (hA : Has As (.blk g (enc a) u) := by repeat (first | exact Has.here | refine Has.there ?_)) (hs : Nat.beq (enc a).length ie.size = true := by exact rfl) (ho : allOne (enc a) = true := by exact rfl) (hm : (l.length + 1) * 200 ≤ 140737488355328 := by omega) (hb : Nat.ble ie.bytes 200 = true := by exact rfl) :
    Eff Γ e As ⟨d, .call { callee := .builtin .append, args := #[x, y], argTypes := ats }, ty, pos, af, gd⟩ (fun u As' => ∃ A' c', u = .slice A' (l ++ [a]).length c' ∧ As' = .row (.slice A' (l ++ [a]).length c') el ie.size ((l ++ [a]).map enc) :: Rs) := by
  have hb : ie.bytes ≤ 200 := by simpa [Nat.ble_eq] using hb
  have hm2 : ((l.map enc).length + 1) * ie.bytes ≤ 140737488355328 ∧ (l.map enc).length + 1 ≤ 140737488355328 := by
    rw [List.length_map]
    exact ⟨Nat.le_trans (Nat.mul_le_mul_left _ hb) hm, by omega⟩
  have h := eff_append1 (d := d) (ty := ty) (pos := pos) (af := af) (gd := gd) hx hy hat ht hd he hz hp hr hA hs ho hm2
  have e1 : l.map enc ++ [enc a] = (l ++ [a]).map enc := by simp
  have e2 : (l.map enc ++ [enc a]).length = (l ++ [a]).length := by simp
  rw [e2, e1] at h
  exact h
theorem v_indexB {b o : Nat} {k : IntKind} {j : Int} (hx : ev e x = some (.slice (some ⟨b, o, none⟩) ln c) := by exact rfl) (hy : ev e y = some (.int k j) := by exact rfl) (ht : tfind Γ.tys t = some i := by exact rfl) (hd : i.td = .slice el := by exact rfl) (he : tfind Γ.tys el = some ie := by exact rfl) (h0 : 0 ≤ j := by omega) (h1 : j < ln := by omega) : Val Γ e As ⟨d, .indexAddr t x y, ty, pos, af, gd⟩ (.pointer (some (eptr (some ⟨b, o, none⟩) ie.size j))) :=
  val_indexAddr hx hy ht hd he h0 h1 fun w hw => ⟨b, o, rfl⟩
/-- append(nil, make([]T, n)...): n > 0. -/
theorem e_appendZ {m : Int} {q : IntKind} (hx : ev e x = some (.slice D 0 0) := by exact rfl) (hy : ev e y = some (.int .i64 m) := by exact rfl) (hat : ats = #[t, t2] := by exact rfl) (ht : tfind Γ.tys t = some i := by exact rfl) (hd : i.td = .slice el := by exact rfl) (he : tfind Γ.tys el = some ie := by exact rfl) (ht2 : tfind Γ.tys t2 = some i2 := by exact rfl) (hd2 : i2.td = .int q := by exact rfl)
    (hz : Nat.beq ie.zero.length ie.size = true := by exact rfl) (hp : Nat.blt 0 ie.size = true := by exact rfl) (hm : 0 < m := by omega) (hb : m.toNat * ie.bytes ≤ 140737488355328 ∧ m.toNat ≤ 140737488355328 := by omega) :
    Eff Γ e As ⟨d, .call { callee := .builtin .append, args := #[x, y], argTypes := ats }, ty, pos, af, gd⟩ (fun u As' => ∃ g' c', u = .slice (some ⟨g', 0, none⟩) m.toNat c' ∧ m.toNat ≤ c' ∧ As' = .row (.slice (some ⟨g', 0, none⟩) m.toNat c') el ie.size (List.replicate m.toNat ie.zero) :: As) := by
  have h := eff_append_zeros (m := m.toNat) (ys := []) (As := As) (d := d) (ty := ty) (pos := pos) (af := af) (gd := gd) hx hy (by omega) hat ht hd he ht2 hd2 hz hp (by omega) (fun w hw h => absurd h (by simp)) rfl (fun c hc => by cases hc) (by omega) (by omega) (by simpa using hb.1)
  simpa using h
end
section
variable {w0 w : World} {F0 : Nat → Prop} {As Bs Rs : List Atom} {α : Type} {enc : α → List Value} {s : Nat}
/-- A row cut back to its first m. -/
theorem Ent.rowTake {Γ : Ctx} {A : Option Addr} {n c m : Nat} {el : TypeId} {xs : List (List Value)} (hm : m ≤ xs.length) : Ent Γ (.row (.slice A n c) el s xs :: Rs) (.row (.slice A m c) el s (xs.take m) :: Rs) := .mk fun w hw => hw.rowTake hm
/-- A block as a slice of one. -/
theorem Sl.blk1 {g : Nat} {u : TypeId} [hw : HeapOK w0 F0 As w] [hp : PickC As Bs Rs] (a : α) (hA : Has Rs (.blk g (enc a) u) := by repeat (first | exact Has.here | refine Has.there ?_)) (hs : (enc a).length = s := by exact rfl) (h0 : 0 < s := by decide) : Sl w (fpAll Bs) enc s [a] (Option.some (Addr.mk g 0 Option.none)) 1 := by
  have h := blk_sl hw hp.h hA hs h0
  exact ⟨h.rd, h.cap, h.len⟩
instance rdl_blk {Γ : Ctx} {b : Nat} {cs : List Value} {u : TypeId} [hr : BlkC As b cs u] : Rdl Γ As (some ⟨b, 0, none⟩) cs.length [cs] := ⟨fun w hw => rd_blk hw hr.h⟩
end
end Go.Eng
