/-
  THE ENGINE's ROWS, third part: append, store, copy, clear.
-/
import Derived.Test.YtaclpbkbjmbceaaEngG
set_option linter.unusedVariables false
set_option linter.unusedSimpArgs false
namespace Go.Eng
open Go.RowKit

section
variable {Γ : Ctx} {e : Env} {As As' Rs : List Atom} {d : Option Tmp} {ty : TypeId} {pos : String} {af : Array Edge} {gd : Option (Nat × Bool)} {t el : TypeId} {i ie : TyI}
theorem Rem.mem {As Rs : List Atom} {A : Atom} (h : Rem As A Rs) : A ∈ As := (h.perm.mem_iff).2 List.mem_cons_self
theorem el_info {P : Program} {el : TypeId} {ie : TyI} (h : TyOK P el ie) : ∃ ti z, P.info? el = some ti ∧ ti.zero = some z ∧ ti.size = ie.size ∧ ti.bytes = ie.bytes ∧ z.cells.size = ie.zero.length := by
  obtain ⟨ti, z, h1, h2, h3, h4, h5⟩ := h.info
  exact ⟨ti, z, h1, h4, h2, h3, by rw [← Array.length_toList, h5]⟩
theorem run_append {w0 w : World} {F0 : Nat → Prop} {P : Program} {v : Value} {A : Option Addr} {c : Nat} {xs ys : List (List Value)} {ty : TypeId} (ht : P.underlying t = some (.slice el)) (he : TyOK P el ie) (hz : Nat.beq ie.zero.length ie.size = true) (hp : Nat.blt 0 ie.size = true)
    (h : HeapOK w0 F0 (.row v el ie.size xs :: Rs) w) (hR : Rd w A ie.size ys) (hy : ∀ c ∈ ys, c.length = ie.size ∧ allOne c = true) (hb : (xs.length + ys.length) * ie.bytes ≤ 140737488355328) (hm : xs.length + ys.length ≤ 140737488355328) :
    ∃ v' w', (Builtin.append_ #[t, t] ty #[v, .slice A ys.length c]).run P w = .ok v' w' ∧ HeapOK w0 F0 (.row v' el ie.size (xs ++ ys) :: Rs) w' := by
  have hz := Nat.eq_of_beq_eq_true hz
  have hp : 0 < ie.size := by simpa [Nat.blt_eq] using hp
  obtain ⟨ti, z, h1, h2, h3, h4, h5⟩ := el_info he
  obtain ⟨ho, hx⟩ := h.ok _ List.mem_cons_self
  have hy1 : ∀ c ∈ ys, c.length = ie.size := fun c hc => (hy c hc).1
  by_cases h0 : ys = []
  · subst h0
    obtain ⟨A', c', rfl, hc', _⟩ := row_form (h.ok _ List.mem_cons_self)
    refine ⟨.slice A' xs.length c', w, ?_, by simpa using h⟩
    cases A <;> cases A' <;> simp [Builtin.append_, run_underlying ht, sizeOf, typeInfo, h1, Builtin.lenOf, hc', Builtin.firstCells, loadCells, loadCellsFrom, storeCells]
  · have hpos : 0 < ys.length := List.length_pos_iff.2 h0
    obtain ⟨b, o, rfl, _⟩ := hR hpos
    obtain ⟨v', w', r1, r2, r3, _, r5⟩ := run_append_own_at (P := P) w 0 t ty el ti z ie.size ie.bytes ht h1 h2 h3 h4 (by rw [h5, hz]) hp v xs.length xs.flatten ho ⟨b, o, none⟩ ys.length c ys.flatten (flatten_length hy1) (hR.flat hy1 rfl hpos) (allOne_flat fun c hc => (hy c hc).2)
      (by simp only [maxLen]; omega) hb (Nat.zero_le _)
    exact ⟨v', w', r1, h.appended r2 r3 r5 rfl hy1⟩
/-- append(s, t...) of what can be read. -/
theorem eff_append {x y : Operand} {v : Value} {A : Option Addr} {n c : Nat} {xs ys : List (List Value)} {ats : Array TypeId} (hx : ev e x = some v) (hy : ev e y = some (.slice A n c)) (hat : ats = #[t, t]) (ht : tfind Γ.tys t = some i) (hd : i.td = .slice el) (he : tfind Γ.tys el = some ie) (hz : Nat.beq ie.zero.length ie.size = true) (hp : Nat.blt 0 ie.size = true)
    (hr : Rem As (.row v el ie.size xs) Rs) (hn : ys.length = n) (hR : ∀ w, HeapOK Γ.w0 Γ.F0 As w → Rd w A ie.size ys) (ho : ∀ c ∈ ys, c.length = ie.size ∧ allOne c = true) (hb : (xs.length + ys.length) * ie.bytes ≤ 140737488355328) (hm : xs.length + ys.length ≤ 140737488355328) :
    Eff Γ e As ⟨d, .call { callee := .builtin .append, args := #[x, y], argTypes := ats }, ty, pos, af, gd⟩ (fun u As' => ∃ A' c', u = .slice A' (xs ++ ys).length c' ∧ As' = .row (.slice A' (xs ++ ys).length c') el ie.size (xs ++ ys) :: Rs) := .mk fun a w ha hw => by
  subst hat hn
  obtain ⟨v', w', h1, h2⟩ := run_append (ty := ty) (c := c) (slice_of (Γ.ok t i ht) hd) (Γ.ok el ie he) hz hp (hw.perm hr.perm) (hR w hw) ho hb hm
  obtain ⟨A', c', rfl, _⟩ := row_form (h2.ok _ List.mem_cons_self)
  have h3 : (execOp a.eval ⟨d, .call { callee := .builtin .append, args := #[x, y], argTypes := #[t, t] }, ty, pos, af, gd⟩).run Γ.P w = .ok (.value (.slice A' (xs ++ ys).length c')) w' := by
    simp only [execOp, resolve, invoke, builtin, Sem.run_bind, Sem.run_pure, Result.andThen_ok, List.map_toArray, List.map_cons, List.map_nil, ha.eval hx, ha.eval hy, h1]
  unfold wpR
  rw [h3]
  exact ⟨_, _, rfl, ⟨A', c', rfl, rfl⟩, h2⟩
/-- append(s, x): what is laid in a block of its own. -/
theorem eff_append1 {x y : Operand} {v : Value} {g : Nat} {xs : List (List Value)} {cs : List Value} {ats : Array TypeId} {u : TypeId} (hx : ev e x = some v) (hy : ev e y = some (.slice (some ⟨g, 0, none⟩) 1 1)) (hat : ats = #[t, t]) (ht : tfind Γ.tys t = some i) (hd : i.td = .slice el) (he : tfind Γ.tys el = some ie) (hz : Nat.beq ie.zero.length ie.size = true) (hp : Nat.blt 0 ie.size = true)
    (hr : Rem As (.row v el ie.size xs) Rs) (hA : Has As (.blk g cs u)) (hs : Nat.beq cs.length ie.size = true) (ho : allOne cs = true) (hm : (xs.length + 1) * ie.bytes ≤ 140737488355328 ∧ xs.length + 1 ≤ 140737488355328) :
    Eff Γ e As ⟨d, .call { callee := .builtin .append, args := #[x, y], argTypes := ats }, ty, pos, af, gd⟩ (fun u As' => ∃ A' c', u = .slice A' (xs ++ [cs]).length c' ∧ As' = .row (.slice A' (xs ++ [cs]).length c') el ie.size (xs ++ [cs]) :: Rs) := by
  have hs := Nat.eq_of_beq_eq_true hs
  exact eff_append (ys := [cs]) hx hy hat ht hd he hz hp hr rfl (fun w hw => by have := rd_blk hw hA; rw [hs] at this; exact this) (fun c hc => by
    rw [List.mem_singleton.1 hc]; exact ⟨hs, ho⟩) hm.1 hm.2
theorem set_length {xs : List (List Value)} {s k : Nat} {c : List Value} (hx : ∀ c ∈ xs, c.length = s) (hc : c.length = s) : ∀ d ∈ xs.set k c, d.length = s := fun d hd => by
  rcases List.mem_or_eq_of_mem_set hd with h | h
  · exact hx d h
  · rw [h, hc]
/-- A store into an element of a row. -/
theorem eff_store_elt {x y : Operand} {A : Option Addr} {n c o : Nat} {j : Int} {xs : List (List Value)} {cs vs : List Value} {v : Value} (hx : ev e x = some (.pointer (some ((eptr A ie.size j).add o)))) (hy : ev e y = some v) (hv : v.cells.toList = vs) (ht : tfind Γ.tys t = some i) (hs : Nat.beq i.size vs.length = true) (h1 : allOne vs = true)
    (hr : Rem As (.row (.slice A n c) el ie.size xs) Rs) (hj : xs[j.toNat]? = some cs) (ho : Nat.ble (o + vs.length) ie.size = true) :
    Eff Γ e As ⟨d, .store t x y, ty, pos, af, gd⟩ (RSet (.row (.slice A n c) el ie.size (xs.set j.toNat (ovw cs o vs)) :: Rs)) := .mk fun a w ha hw => by
  have hs := Nat.eq_of_beq_eq_true hs
  have ho : o + vs.length ≤ ie.size := by simpa [Nat.ble_eq] using ho
  have hw1 := hw.perm hr.perm
  have hok := hw1.ok _ List.mem_cons_self
  have hxs := hok.2
  have hlt : j.toNat < xs.length := (List.getElem?_eq_some_iff.1 hj).1
  have hcl : cs.length = ie.size := hxs cs (List.mem_of_getElem? hj)
  rcases hok.1.2 with ⟨he, h0⟩ | ⟨g, cap, cur, he, _⟩
  · omega
  · injection he with e1 e2 e3
    subst e1
    have hbd : j.toNat * ie.size + o + vs.length ≤ xs.length * ie.size := by
      have : (j.toNat + 1) * ie.size ≤ xs.length * ie.size := Nat.mul_le_mul_right _ hlt
      rw [Nat.succ_mul] at this
      omega
    obtain ⟨w', h2, h3⟩ := hw1.rowCells (P := Γ.P) (p := j.toNat * ie.size + o) (vs := vs) (xs' := xs.set j.toNat (ovw cs o vs)) hbd (by simp) (set_length hxs (by rw [ovw_length (by omega), hcl])) (ovw_elt hxs hj ho) (allOne_mem h1)
    have h5 : v.cells.size = i.size := by rw [← Array.length_toList, hv, hs]
    have h6 : (eptr (some ⟨g, 0, none⟩) ie.size j).add o = ⟨g, j.toNat * ie.size + o, none⟩ := by simp [eptr, add_mk]
    have h4 : (execOp a.eval ⟨d, .store t x y, ty, pos, af, gd⟩).run Γ.P w = .ok .skip w' := by
      rw [h6] at hx
      simp [execOp, Instr.storeAt, Instr.sureAddr, ha.eval hx, ha.eval hy, storeVar, run_sizeOf (Γ.ok t i ht), h5, hv, h2]
    unfold wpR
    rw [h4]
    exact ⟨_, _, rfl, rfl, h3⟩
theorem eff_store_elt0 {x y : Operand} {A : Option Addr} {n c : Nat} {j : Int} {xs : List (List Value)} {cs vs : List Value} {v : Value} (hx : ev e x = some (.pointer (some (eptr A ie.size j)))) (hy : ev e y = some v) (hv : v.cells.toList = vs) (ht : tfind Γ.tys t = some i) (hs : Nat.beq i.size vs.length = true) (h1 : allOne vs = true)
    (hr : Rem As (.row (.slice A n c) el ie.size xs) Rs) (hj : xs[j.toNat]? = some cs) (ho : Nat.ble (0 + vs.length) ie.size = true) :
    Eff Γ e As ⟨d, .store t x y, ty, pos, af, gd⟩ (RSet (.row (.slice A n c) el ie.size (xs.set j.toNat (ovw cs 0 vs)) :: Rs)) := eff_store_elt (o := 0) (by rw [hx]; rfl) hy hv ht hs h1 hr hj ho
theorem ovw_whole {cs vs : List Value} (h : vs.length = cs.length) : ovw cs 0 vs = vs := by
  unfold ovw
  rw [List.take_zero, Nat.zero_add, h, List.drop_length]
  simp
/-- copy(row[k:], what can be read). -/
theorem eff_copy {x y : Operand} {g c dl dc sl sc k : Nat} {n : Nat} {A D : Option Addr} {xs zs : List (List Value)} {ats : Array TypeId} {t' : TypeId} (hx : ev e x = some (.slice D dl dc)) (hD : D = some ⟨g, k * ie.size, none⟩) (hy : ev e y = some (.slice A sl sc)) (hat : ats = #[t, t']) (ht : tfind Γ.tys t = some i) (hd : i.td = .slice el) (he : tfind Γ.tys el = some ie)
    (hr : Rem As (.row (.slice (some ⟨g, 0, none⟩) n c) el ie.size xs) Rs) (hn : min sl dl = zs.length) (hR : ∀ w, HeapOK Γ.w0 Γ.F0 As w → Rd w A ie.size zs) (ho : ∀ c ∈ zs, c.length = ie.size ∧ allOne c = true) (hk : k + zs.length ≤ xs.length) (hA : A ≠ none ∨ zs = []) :
    Eff Γ e As ⟨d, .call { callee := .builtin .copy, args := #[x, y], argTypes := ats }, ty, pos, af, gd⟩ (fun u As' => u = .int .i64 zs.length ∧ As' = .row (.slice (some ⟨g, 0, none⟩) n c) el ie.size (ovw xs k zs) :: Rs) := .mk fun a w ha hw => by
  subst hat hD
  have hw1 := hw.perm hr.perm
  have hok := hw1.ok _ List.mem_cons_self
  have hxs := hok.2
  have hz1 : ∀ c ∈ zs, c.length = ie.size := fun c hc => (ho c hc).1
  obtain ⟨ti, z, h1, h2, h3, h4, h5⟩ := el_info (Γ.ok el ie he)
  have hzl : (ovw xs k zs).length = xs.length := ovw_length hk
  have hzs : ∀ c ∈ ovw xs k zs, c.length = ie.size := fun c hc => by
    rcases List.mem_append.1 hc with hc | hc
    · rcases List.mem_append.1 hc with hc | hc
      · exact hxs c (List.mem_of_mem_take hc)
      · exact hz1 c hc
    · exact hxs c (List.mem_of_mem_drop hc)
  obtain ⟨w', h6, h7⟩ := hw1.rowCells (P := Γ.P) (p := k * ie.size) (vs := zs.flatten) (xs' := ovw xs k zs) (by rw [flatten_length hz1, ← Nat.add_mul]; exact Nat.mul_le_mul_right _ hk) hzl hzs (ovw_flatten hxs hz1 hk) (allOne_flat fun c hc => (ho c hc).2)
  have h8 : (Builtin.firstCells ie.size zs.length (.slice A sl sc)).run Γ.P w = .ok zs.flatten.toArray w := by
    cases A with
    | none =>
      have : zs = [] := hA.resolve_left (by simp)
      subst this
      simp [Builtin.firstCells]
    | some ad =>
      by_cases h0 : zs = []
      · subst h0; simp [Builtin.firstCells, loadCells, loadCellsFrom]
      · have hpos : 0 < zs.length := List.length_pos_iff.2 h0
        have hfl := (hR w hw).flat hz1 rfl hpos
        have := run_loadCells_list (P := Γ.P) w ad zs.flatten hfl
        rw [flatten_length hz1] at this
        simpa [Builtin.firstCells] using this
  have h9 : (Builtin.copy_ #[t, t'] ty #[.slice (some ⟨g, k * ie.size, none⟩) dl dc, .slice A sl sc]).run Γ.P w = .ok (.int .i64 zs.length) w' := by
    have hmin : Nat.min sl dl = zs.length := hn
    simp only [Builtin.copy_, List.getElem?_toArray, List.getElem?_cons_zero, List.getElem?_cons_succ, Sem.run_bind, run_underlying (slice_of (Γ.ok t i ht) hd), Result.andThen_ok, Builtin.lenOf, Sem.run_pure, run_sizeOf (Γ.ok el ie he), hmin, h8, h6, goInt]
  have h10 : (execOp a.eval ⟨d, .call { callee := .builtin .copy, args := #[x, y], argTypes := #[t, t'] }, ty, pos, af, gd⟩).run Γ.P w = .ok (.value (.int .i64 zs.length)) w' := by
    simp only [execOp, resolve, invoke, builtin, Sem.run_bind, Sem.run_pure, Result.andThen_ok, List.map_toArray, List.map_cons, List.map_nil, ha.eval hx, ha.eval hy, h9]
  unfold wpR
  rw [h10]
  exact ⟨_, _, rfl, ⟨rfl, rfl⟩, h7⟩
/-- clear(row[k:]). -/
theorem eff_clear {x : Operand} {g c dl dc k n : Nat} {D : Option Addr} {xs : List (List Value)} {ats : Array TypeId} (hx : ev e x = some (.slice D dl dc)) (hD : D = some ⟨g, k * ie.size, none⟩) (hat : ats = #[t]) (ht : tfind Γ.tys t = some i) (hd : i.td = .slice el) (he : tfind Γ.tys el = some ie) (hz : Nat.beq ie.zero.length ie.size = true) (h1 : allOne ie.zero = true)
    (hr : Rem As (.row (.slice (some ⟨g, 0, none⟩) n c) el ie.size xs) Rs) (hk : k + dl ≤ xs.length) :
    Eff Γ e As ⟨d, .call { callee := .builtin .clear, args := #[x], argTypes := ats }, ty, pos, af, gd⟩ (fun u As' => ∃ zs, zs.length = dl ∧ As' = .row (.slice (some ⟨g, 0, none⟩) n c) el ie.size (ovw xs k zs) :: Rs) := .mk fun a w ha hw => by
  subst hat hD
  have hz := Nat.eq_of_beq_eq_true hz
  have hw1 := hw.perm hr.perm
  have hok := hw1.ok _ List.mem_cons_self
  have hxs := hok.2
  obtain ⟨z, hz1, hz2⟩ := run_zeroValue (Γ.ok el ie he) w
  have hzs : z.cells.size = ie.size := by rw [← Array.length_toList, hz2, hz]
  let zs : List (List Value) := List.replicate dl ie.zero
  have hzl : zs.length = dl := by simp [zs]
  have hzm : ∀ c ∈ zs, c.length = ie.size := fun c hc => by rw [(List.mem_replicate.1 hc).2, hz]
  have hl : (ovw xs k zs).length = xs.length := ovw_length (by omega)
  have hov : ∀ c ∈ ovw xs k zs, c.length = ie.size := fun c hc => by
    rcases List.mem_append.1 hc with hc | hc
    · rcases List.mem_append.1 hc with hc | hc
      · exact hxs c (List.mem_of_mem_take hc)
      · exact hzm c hc
    · exact hxs c (List.mem_of_mem_drop hc)
  obtain ⟨w', h6, h7⟩ := hw1.rowCells (P := Γ.P) (p := k * ie.size) (vs := zs.flatten) (xs' := ovw xs k zs) (by rw [flatten_length hzm, hzl, ← Nat.add_mul]; exact Nat.mul_le_mul_right _ hk) hl hov (ovw_flatten hxs hzm (by omega))
    (allOne_flat fun c hc => by rw [(List.mem_replicate.1 hc).2]; exact h1)
  have h8 : (Builtin.zeroCells z.cells dl).toList = zs.flatten := by
    apply List.ext_getElem?
    intro j
    have hfl : zs.flatten.length = dl * ie.size := by rw [flatten_length hzm, hzl]
    by_cases hj : j < dl * ie.size
    · have hs0 : 0 < ie.size := Nat.pos_of_ne_zero fun e => by rw [e] at hj; simp at hj
      have hmod := Nat.mod_lt j hs0
      have hdm := Nat.div_add_mod j ie.size
      have hk : j / ie.size < dl := Nat.div_lt_of_lt_mul (by rwa [Nat.mul_comm])
      have e1 := flatten_get hzm (j := j / ie.size) (c := ie.zero) (by simp [zs, hk]) (j % ie.size) _ (List.getElem?_eq_getElem (by omega))
      rw [Nat.mul_comm (j / ie.size), hdm] at e1
      rw [e1]
      have e2 : z.cells[j % ie.size]? = some ie.zero[j % ie.size] := by
        rw [← Array.getElem?_toList, hz2, List.getElem?_eq_getElem (by omega)]
      have e3 : z.cells[j % ie.size]! = ie.zero[j % ie.size] := by rw [getElem!_def, e2]
      simp [Builtin.zeroCells, hzs, hj, e3]
    · have e4 : (Builtin.zeroCells z.cells dl).toList.length = dl * ie.size := by simp [Builtin.zeroCells, hzs]
      rw [List.getElem?_eq_none (by omega), List.getElem?_eq_none (by omega)]
  have h9 : ∃ u, (Builtin.clear_ #[t] ty #[.slice (some ⟨g, k * ie.size, none⟩) dl dc]).run Γ.P w = .ok u w' := by
    by_cases h0 : dl = 0
    · subst h0
      have e1 : zs = [] := List.eq_nil_of_length_eq_zero hzl
      rw [e1] at h6
      simp [storeCells] at h6
      subst h6
      exact ⟨.tuple #[], by simp [Builtin.clear_, run_underlying (slice_of (Γ.ok t i ht) hd)]⟩
    · obtain ⟨m, hm⟩ : ∃ m, dl = m + 1 := ⟨dl - 1, by omega⟩
      rw [hm] at h8 ⊢
      refine ⟨.tuple #[], ?_⟩
      simp only [Builtin.clear_, List.getElem?_toArray, List.getElem?_cons_zero, Sem.run_bind, run_underlying (slice_of (Γ.ok t i ht) hd), Result.andThen_ok, hz1, h8, h6, Sem.run_pure]
  obtain ⟨u, h9⟩ := h9
  have h10 : (execOp a.eval ⟨d, .call { callee := .builtin .clear, args := #[x], argTypes := #[t] }, ty, pos, af, gd⟩).run Γ.P w = .ok (.value u) w' := by
    simp only [execOp, resolve, invoke, builtin, Sem.run_bind, Sem.run_pure, Result.andThen_ok, List.map_toArray, List.map_cons, List.map_nil, ha.eval hx, h9]
  unfold wpR
  rw [h10]
  exact ⟨_, _, rfl, ⟨zs, hzl, rfl⟩, h7⟩
end
end Go.Eng
