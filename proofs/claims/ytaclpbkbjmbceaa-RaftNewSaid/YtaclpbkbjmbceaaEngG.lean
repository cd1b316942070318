/-
  THE ENGINE's ROWS, second part: the operations.
-/
import Derived.Test.YtaclpbkbjmbceaaEngF
set_option linter.unusedVariables false
set_option linter.unusedSimpArgs false
namespace Go.Eng
open Go.RowKit

section
variable {w0 w w' : World} {F0 : Nat → Prop} {As As' Rs : List Atom}
/-- A row turned by an append. -/
theorem HeapOK.appended {v v' : Value} {el : TypeId} {s m : Nat} {xs ys : List (List Value)} (h : HeapOK w0 F0 (.row v el s xs :: Rs) w) (ho : w'.ownsRow 0 el s v' (xs.length + m) (xs.flatten ++ ys.flatten)) (hg : w.grownBy w' v.ownBlock) (hat : v'.ownBlock = v.ownBlock ∨ v'.ownBlock = some w.heap.size)
    (hm : ys.length = m) (hy : ∀ c ∈ ys, c.length = s) : HeapOK w0 F0 (.row v' el s (xs ++ ys) :: Rs) w' := by
  have hx := (h.ok _ List.mem_cons_self).2
  subst hm
  refine h.rep .here hg.os hg.tape hg.output hg.size (fun k hk hf => hg.block k hk fun e => hf e.symm) ⟨by simpa using ho, fun c hc => (List.mem_append.1 hc).elim (hx c) (hy c)⟩ fun k hk => ⟨?_, (ho.lt k hk).2⟩
  have hk : v'.ownBlock = some k := hk
  rcases hat with e | e
  · exact .inl (e.symm.trans hk)
  · rw [e] at hk; injection hk with hk; exact .inr (by omega)
/-- A row's cells written. -/
theorem HeapOK.rowCells {P : Program} {g n c p : Nat} {el : TypeId} {s : Nat} {xs xs' : List (List Value)} {vs : List Value} (h : HeapOK w0 F0 (.row (.slice (some ⟨g, 0, none⟩) n c) el s xs :: Rs) w) (hp : p + vs.length ≤ xs.length * s) (hl : xs'.length = xs.length) (hs : ∀ c ∈ xs', c.length = s)
    (hf : xs'.flatten = ovw xs.flatten p vs) (h1 : ∀ v ∈ vs, v.oneCell' = true) : ∃ w', (storeCells ⟨g, p, none⟩ vs).run P w = .ok () w' ∧ HeapOK w0 F0 (.row (.slice (some ⟨g, 0, none⟩) n c) el s xs' :: Rs) w' := by
  obtain ⟨ho, hx⟩ := h.ok _ List.mem_cons_self
  rcases ho.2 with ⟨he, _⟩ | ⟨g', cap, cur, he, hb, hg, hn, hm, hcs, ht⟩
  · cases he
  · injection he with e1 e2 e3
    injection e1 with e1
    injection e1 with e1
    subst e1 e2 e3
    have hle : xs.length * s ≤ cur.size := by rw [hcs]; exact Nat.mul_le_mul_right _ hn
    refine ⟨_, run_storeCells_at P g p el vs 0 cur w hg (by simp; omega) h1, ?_⟩
    simp only [Nat.add_zero]
    refine h.rep .here rfl rfl rfl (by simp) (fun k _ hk => setRow_other w g k _ fun e => hk (by simp [Atom.fp, Value.ownBlock, e])) ?_ fun k hk => ⟨.inl hk, ?_⟩
    · have hL : (ovw cur.toList p vs).length = cur.size := by rw [ovw_length (by simp; omega)]; simp
      have hA : w.setRow g (ovw cur.toList p vs).toArray = w.setRow g (cur.toList.take p ++ vs ++ cur.toList.drop (p + vs.length)).toArray := rfl
      rw [← hA]
      refine ⟨⟨by rw [flatten_length hs], .inr ⟨g, c, (ovw cur.toList p vs).toArray, by rw [hl], hb, setRow_heap w g cur _ el _ hg, by rw [hl]; exact hn, hm, by simp [hL, hcs], ?_⟩⟩, hs⟩
      rw [hf, hl]
      show (ovw cur.toList p vs).take (xs.length * s) = _
      rw [ovw_take hp (by simpa using hle), ht]
    · have := (h.dom _ List.mem_cons_self k hk).2
      simpa using this
theorem rd_blk {g : Nat} {cs : List Value} {ty : TypeId} (h : HeapOK w0 F0 As w) (hA : Has As (.blk g cs ty)) : Rd w (some ⟨g, 0, none⟩) cs.length [cs] := fun _ => by
  refine ⟨g, 0, rfl, fun j c hj => ?_⟩
  match j, hj with
  | 0, hj =>
    simp at hj
    subst hj
    refine ⟨rfl, fun i u hu => ?_⟩
    rw [h.cell hA]
    simpa using hu
theorem Rd.flat {A : Option Addr} {s : Nat} {ys : List (List Value)} {ad : Addr} (h : Rd w A s ys) (hs : ∀ c ∈ ys, c.length = s) (hA : A = some ad) (hp : 0 < ys.length) : ∀ j u, ys.flatten[j]? = some u → w.cell? (ad.add j) = some u := by
  intro j u hj
  obtain ⟨b, o, he, hc⟩ := h hp
  rw [hA] at he
  injection he with he
  subst he
  have hlt : j < ys.flatten.length := (List.getElem?_eq_some_iff.1 hj).1
  rw [flatten_length hs] at hlt
  have hs0 : 0 < s := Nat.pos_of_ne_zero fun e => by subst e; simp at hlt
  have hk : j / s < ys.length := Nat.div_lt_of_lt_mul (by rwa [Nat.mul_comm])
  have hd := Nat.div_add_mod j s
  have hmod := Nat.mod_lt j hs0
  have hcl : ys[j / s].length = s := hs _ (List.getElem_mem _)
  have h1 := flatten_get hs (List.getElem?_eq_getElem hk) (j % s) _ (List.getElem?_eq_getElem (by omega))
  rw [Nat.mul_comm (j / s) s, hd, hj] at h1
  have h2 := (hc _ _ (List.getElem?_eq_getElem hk)).2 (j % s) u (by rw [List.getElem?_eq_getElem (by omega)]; exact h1.symm)
  rw [add_mk]
  rw [show o + j / s * s + j % s = o + j by rw [Nat.mul_comm (j / s) s]; omega] at h2
  exact h2
theorem allOne_flat {ys : List (List Value)} (h : ∀ c ∈ ys, allOne c = true) : ∀ u ∈ ys.flatten, u.oneCell' = true := fun u hu => by
  obtain ⟨c, hc, hu⟩ := List.mem_flatten.1 hu
  exact allOne_mem (h c hc) u hu
/-- A row, shorter. -/
theorem HeapOK.rowTake {A : Option Addr} {n c m : Nat} {el : TypeId} {s : Nat} {xs : List (List Value)} (h : HeapOK w0 F0 (.row (.slice A n c) el s xs :: Rs) w) (hm : m ≤ xs.length) : HeapOK w0 F0 (.row (.slice A m c) el s (xs.take m) :: Rs) w := by
  obtain ⟨ho, hx⟩ := h.ok _ List.mem_cons_self
  have hx' : ∀ c ∈ xs.take m, c.length = s := fun c hc => hx c (List.mem_of_mem_take hc)
  refine h.turn ⟨?_, hx'⟩ fun k hk => ?_
  · refine ⟨flatten_length hx', ?_⟩
    rcases ho.2 with ⟨he, h0⟩ | ⟨g, cap, cur, he, hb, hg, hn, hmx, hcs, ht⟩
    · injection he with e1 e2 e3
      subst e1 e3
      exact .inl ⟨by congr 1; omega, by simp; omega⟩
    · injection he with e1 e2 e3
      subst e1 e3
      have hl : (xs.take m).length = m := by simp; omega
      refine .inr ⟨g, c, cur, by rw [hl], hb, hg, by omega, hmx, hcs, ?_⟩
      rw [hl]
      have hle : m * s ≤ xs.length * s := Nat.mul_le_mul_right _ hm
      have e1 : (cur.toList.take (xs.length * s)).take (m * s) = xs.flatten.take (m * s) := by rw [ht]
      rw [List.take_take, Nat.min_eq_left hle] at e1
      rw [e1]
      have l1 : (xs.take m).flatten.length = m * s := by rw [flatten_length hx', hl]
      conv => lhs; rw [← List.take_append_drop m xs, List.flatten_append, ← l1]
      exact List.take_left
  · cases A <;> exact hk
/-- A row, longer: what lay behind. -/
theorem HeapOK.rowExt {g n c m : Nat} {el : TypeId} {s : Nat} {xs : List (List Value)} (h : HeapOK w0 F0 (.row (.slice (some ⟨g, 0, none⟩) n c) el s xs :: Rs) w) (hn : n = xs.length) (hm : xs.length + m ≤ c) : ∃ zs : List (List Value), zs.length = m ∧ HeapOK w0 F0 (.row (.slice (some ⟨g, 0, none⟩) (xs.length + m) c) el s (xs ++ zs) :: Rs) w := by
  obtain ⟨ho, hx⟩ := h.ok _ List.mem_cons_self
  rcases ho.2 with ⟨he, _⟩ | ⟨g', cap, cur, he, hb, hg, hn', hmx, hcs, ht⟩
  · cases he
  · injection he with e1 e2 e3
    injection e1 with e1
    injection e1 with e1
    subst e1 e3
    let zs : List (List Value) := (List.range m).map fun j => ((cur.toList.drop (xs.length * s)).drop (j * s)).take s
    have hcap : (xs.length + m) * s ≤ c * s := Nat.mul_le_mul_right _ hm
    rw [Nat.add_mul] at hcap
    have hlen : ∀ j, j < m → (((cur.toList.drop (xs.length * s)).drop (j * s)).take s).length = s := fun j hj => by
      have : (j + 1) * s ≤ m * s := Nat.mul_le_mul_right _ hj
      rw [Nat.succ_mul] at this
      simp only [List.length_take, List.length_drop, Array.length_toList, hcs]
      omega
    have hz : ∀ c ∈ zs, c.length = s := fun d hd => by
      obtain ⟨j, hj, rfl⟩ := List.mem_map.1 hd
      exact hlen j (List.mem_range.1 hj)
    have hzf : ∀ k, k ≤ m → (((List.range k).map fun j => ((cur.toList.drop (xs.length * s)).drop (j * s)).take s) : List (List Value)).flatten = (cur.toList.drop (xs.length * s)).take (k * s) := by
      intro k
      induction k with
      | zero => simp
      | succ k ih =>
        intro hk
        rw [List.range_succ, List.map_append, List.flatten_append, ih (by omega)]
        simp only [List.map_cons, List.map_nil, List.flatten_cons, List.flatten_nil, List.append_nil]
        rw [Nat.succ_mul, List.take_add]
    refine ⟨zs, by simp [zs], h.turn ⟨⟨flatten_length fun c hc => (List.mem_append.1 hc).elim (hx c) (hz c), .inr ⟨g, c, cur, by simp [zs], hb, hg, by simp [zs]; omega, hmx, hcs, ?_⟩⟩, fun c hc => (List.mem_append.1 hc).elim (hx c) (hz c)⟩ fun k hk => hk⟩
    rw [List.flatten_append]
    have : zs.flatten = (cur.toList.drop (xs.length * s)).take (m * s) := hzf m (Nat.le_refl _)
    rw [this, ← ht, List.length_append, show zs.length = m by simp [zs], Nat.add_mul, List.take_add]
end

section
variable {Γ : Ctx} {e : Env} {As As' Rs : List Atom} {d : Option Tmp} {ty : TypeId} {pos : String} {af : Array Edge} {gd : Option (Nat × Bool)} {t el : TypeId} {i ie : TyI}
def cutA (A : Option Addr) (s c l : Nat) : Option Addr := if c = l then A else A.map (·.add (l * s))
/-! ### Slices of slices -/
theorem sb_ok {P : Program} {k : IntKind} {i : Int} {y : Nat} {code : BoundsCode} (h0 : 0 ≤ i) (h1 : i ≤ y) (w : World) : (Instr.sliceBound (.int k i) y code).run P w = .ok i.toNat w := by
  simp only [Instr.sliceBound, asIntOf, Sem.run_bind, Sem.run_pure, Result.andThen_ok, h0, h1, and_self, if_true]
theorem val_slice_gen {x : Operand} {lo hi mx : Option Operand} {A : Option Addr} {n c : Nat} {l h m : Nat} (hx : ev e x = some (.slice A n c)) (ht : tfind Γ.tys t = some i) (hd : i.td = .slice el) (he : tfind Γ.tys el = some ie)
    (hb : ∀ a w, EnvOK Γ.n e a → (Instr.sliceBounds true n c (lo.map a.eval) (hi.map a.eval) (mx.map a.eval)).run Γ.P w = .ok (l, h, m) w) :
    Val Γ e As ⟨d, .slice t x lo hi mx, ty, pos, af, gd⟩ (.slice (cutA A ie.size m l) (h - l) (m - l)) := .mk fun a w ha hw => by
  have h1 : (Instr.slice t (.slice A n c) (lo.map a.eval) (hi.map a.eval) (mx.map a.eval)).run Γ.P w = .ok (.slice (cutA A ie.size m l) (h - l) (m - l)) w := by
    simp only [Instr.slice, Sem.run_bind, run_underlying (slice_of (Γ.ok t i ht) hd), Result.andThen_ok, hb a w ha, run_sizeOf (Γ.ok el ie he), Sem.run_pure, cutA]
  simp only [execOp, ha.eval hx, Sem.run_bind, Instr.sliceAt, run_underlying (slice_of (Γ.ok t i ht) hd), Result.andThen_ok, h1, Sem.run_pure]
theorem val_slice_lo {x y : Operand} {A : Option Addr} {n c : Nat} {k : IntKind} {l : Int} (hx : ev e x = some (.slice A n c)) (ht : tfind Γ.tys t = some i) (hd : i.td = .slice el) (he : tfind Γ.tys el = some ie) (hy : ev e y = some (.int k l)) (h0 : 0 ≤ l) (h1 : l ≤ n) :
    Val Γ e As ⟨d, .slice t x (some y) none none, ty, pos, af, gd⟩ (.slice (cutA A ie.size c l.toNat) (n - l.toNat) (c - l.toNat)) :=
  val_slice_gen hx ht hd he fun a w ha => by simp only [Instr.sliceBounds, Option.map_some, Option.map_none, ha.eval hy, Sem.run_bind, Sem.run_pure, Result.andThen_ok, sb_ok h0 h1]
theorem val_slice_hi {x y : Operand} {A : Option Addr} {n c : Nat} {k : IntKind} {h : Int} (hx : ev e x = some (.slice A n c)) (ht : tfind Γ.tys t = some i) (hd : i.td = .slice el) (he : tfind Γ.tys el = some ie) (hy : ev e y = some (.int k h)) (h0 : 0 ≤ h) (h1 : h ≤ c) :
    Val Γ e As ⟨d, .slice t x none (some y) none, ty, pos, af, gd⟩ (.slice (cutA A ie.size c 0) h.toNat c) := by
  have := val_slice_gen (Γ := Γ) (e := e) (As := As) (d := d) (ty := ty) (pos := pos) (af := af) (gd := gd) (lo := none) (hi := some y) (mx := none) (l := 0) (h := h.toNat) (m := c) hx ht hd he fun a w ha => by
    simp only [Instr.sliceBounds, Option.map_some, Option.map_none, ha.eval hy, Sem.run_bind, Sem.run_pure, Result.andThen_ok, sb_ok h0 h1]
  exact this
theorem val_slice_lh {x y z : Operand} {A : Option Addr} {n c : Nat} {k k' : IntKind} {l h : Int} (hx : ev e x = some (.slice A n c)) (ht : tfind Γ.tys t = some i) (hd : i.td = .slice el) (he : tfind Γ.tys el = some ie) (hy : ev e y = some (.int k l)) (hz : ev e z = some (.int k' h)) (h0 : 0 ≤ l) (h1 : l ≤ h) (h2 : h ≤ c) :
    Val Γ e As ⟨d, .slice t x (some y) (some z) none, ty, pos, af, gd⟩ (.slice (cutA A ie.size c l.toNat) (h.toNat - l.toNat) (c - l.toNat)) :=
  val_slice_gen hx ht hd he fun a w ha => by
    have a1 : (0 : Int) ≤ h := by omega
    have a3 : l ≤ (h.toNat : Int) := by omega
    simp only [Instr.sliceBounds, Option.map_some, Option.map_none, ha.eval hy, ha.eval hz, Sem.run_bind, Sem.run_pure, Result.andThen_ok, sb_ok a1 h2, sb_ok h0 a3]
theorem val_slice_lhm {x y z u : Operand} {A : Option Addr} {n c : Nat} {k k' k'' : IntKind} {l h m : Int} (hx : ev e x = some (.slice A n c)) (ht : tfind Γ.tys t = some i) (hd : i.td = .slice el) (he : tfind Γ.tys el = some ie) (hy : ev e y = some (.int k l)) (hz : ev e z = some (.int k' h)) (hu : ev e u = some (.int k'' m)) (h0 : 0 ≤ l) (h1 : l ≤ h) (h2 : h ≤ m) (h3 : m ≤ c) :
    Val Γ e As ⟨d, .slice t x (some y) (some z) (some u), ty, pos, af, gd⟩ (.slice (cutA A ie.size m.toNat l.toNat) (h.toNat - l.toNat) (m.toNat - l.toNat)) :=
  val_slice_gen hx ht hd he fun a w ha => by
    have a1 : (0 : Int) ≤ h := by omega
    have a2 : (0 : Int) ≤ m := by omega
    have a3 : l ≤ (h.toNat : Int) := by omega
    have a4 : h ≤ (m.toNat : Int) := by omega
    simp only [Instr.sliceBounds, Option.map_some, ha.eval hy, ha.eval hz, ha.eval hu, Sem.run_bind, Sem.run_pure, Result.andThen_ok, sb_ok a2 h3, sb_ok a1 a4, sb_ok h0 a3]
theorem val_cap {x : Operand} {ats : Array TypeId} {A : Option Addr} {n c : Nat} (hat : ats[0]? = some t) (ht : tfind Γ.tys t = some i) (hd : i.td = .slice el) (hx : ev e x = some (.slice A n c)) :
    Val Γ e As ⟨d, .call { callee := .builtin .cap, args := #[x], argTypes := ats }, ty, pos, af, gd⟩ (.int .i64 c) := .mk fun a w ha hw => by
  simp [execOp, resolve, invoke, builtin, Builtin.cap_, hat, ha.eval hx, run_underlying (slice_of (Γ.ok t i ht) hd), goInt]
/-! ### Numbers -/
theorem val_convert {x : Operand} {src dst : TypeId} {is id : TyI} {k kd : IntKind} {n : Int} (hx : ev e x = some (.int k n)) (hs : tfind Γ.tys src = some is) (hd : tfind Γ.tys dst = some id) (hk : id.td = .int kd) :
    Val Γ e As ⟨d, .convert src dst x, ty, pos, af, gd⟩ (.int kd (kd.wrap n)) := .mk fun a w ha hw => by
  obtain ⟨ds, h1, h2⟩ := (Γ.ok src is hs).und
  have h3 := int_of (Γ.ok dst id hd) hk
  simp [execOp, ha.eval hx, convert, run_underlying h1, run_underlying h3, Conv.intToInt]
theorem val_shr {xt yt : TypeId} {x y : Operand} {k k' : IntKind} {m n : Int} (hx : ev e x = some (.int k m)) (hy : ev e y = some (.int k' n)) (h0 : 0 ≤ n) : Val Γ e As ⟨d, .binOp .shr xt x y yt, ty, pos, af, gd⟩ (.int k (m.fdiv (2 ^ min n.toNat k.bits))) :=
  val_bin hx hy (fun w => guard_int _ _ _ _ _ _ _ _ w) fun w => by simp [binOp, Op.shift, Int.not_lt.2 h0]
theorem val_shl {xt yt : TypeId} {x y : Operand} {k k' : IntKind} {m n : Int} (hx : ev e x = some (.int k m)) (hy : ev e y = some (.int k' n)) (h0 : 0 ≤ n) : Val Γ e As ⟨d, .binOp .shl xt x y yt, ty, pos, af, gd⟩ (.int k (k.wrap (m * 2 ^ min n.toNat k.bits))) :=
  val_bin hx hy (fun w => guard_int _ _ _ _ _ _ _ _ w) fun w => by simp [binOp, Op.shift, Int.not_lt.2 h0]
theorem val_rem {xt yt : TypeId} {x y : Operand} {k : IntKind} {m n : Int} (hx : ev e x = some (.int k m)) (hy : ev e y = some (.int k n)) (h0 : n ≠ 0) : Val Γ e As ⟨d, .binOp .rem xt x y yt, ty, pos, af, gd⟩ (.int k (m.tmod n)) :=
  val_bin hx hy (fun w => guard_int _ _ _ _ _ _ _ _ w) fun w => by simp [binOp, Op.intDiv, h0]
theorem val_quo {xt yt : TypeId} {x y : Operand} {k : IntKind} {m n : Int} (hx : ev e x = some (.int k m)) (hy : ev e y = some (.int k n)) (h0 : n ≠ 0) : Val Γ e As ⟨d, .binOp .quo xt x y yt, ty, pos, af, gd⟩ (.int k (k.wrap (m.tdiv n))) :=
  val_bin hx hy (fun w => guard_int _ _ _ _ _ _ _ _ w) fun w => by simp [binOp, Op.intDiv, h0]
theorem run_eq_bool {P : Program} {xt : TypeId} {ix : TyI} (ht : TyOK P xt ix) (hb : ix.td = .bool) (p q : Bool) (w : World) : (Op.equal xt (.bool p) (.bool q)).run P w = .ok (p == q) w := by
  obtain ⟨dd, h2, h3⟩ := ht.und
  rw [hb] at h3
  have h4 : dd = .bool := by cases dd <;> simp_all [TD.of]
  subst h4
  have : ∀ d, (Op.equalIn (d + 1) xt (.bool p) (.bool q)).run P w = .ok (p == q) w := fun d => by
    simp only [Op.equalIn, Sem.run_bind, run_underlying h2, Result.andThen_ok, Sem.run_pure]
  exact this 9999
theorem val_bool_eql {xt yt : TypeId} {x y : Operand} {p q : Bool} {ix : TyI} (hx : ev e x = some (.bool p)) (hy : ev e y = some (.bool q)) (ht : tfind Γ.tys xt = some ix) (hb : ix.td = .bool) : Val Γ e As ⟨d, .binOp .eql xt x y yt, ty, pos, af, gd⟩ (.bool (p == q)) :=
  val_bin hx hy (fun w => guard_bool _ _ _ _ _ _ w) fun w => by
    simp only [binOp, Sem.run_bind, run_eq_bool (Γ.ok xt ix ht) hb, Result.andThen_ok, Sem.run_pure]
theorem val_bool_neq {xt yt : TypeId} {x y : Operand} {p q : Bool} {ix : TyI} (hx : ev e x = some (.bool p)) (hy : ev e y = some (.bool q)) (ht : tfind Γ.tys xt = some ix) (hb : ix.td = .bool) : Val Γ e As ⟨d, .binOp .neq xt x y yt, ty, pos, af, gd⟩ (.bool (!(p == q))) :=
  val_bin hx hy (fun w => guard_bool _ _ _ _ _ _ w) fun w => by
    simp only [binOp, Sem.run_bind, run_eq_bool (Γ.ok xt ix ht) hb, Result.andThen_ok, Sem.run_pure]
/-! ### A slice of one -/
theorem eff_buildSlice1 {x : Operand} {v : Value} {cs : List Value} (hx : ev e x = some v) (hc : v.cells.toList = cs) (ht : tfind Γ.tys t = some i) (hd : i.td = .slice el) (he : tfind Γ.tys el = some ie) (hs : Nat.beq ie.size cs.length = true) (hz : Nat.beq ie.zero.length ie.size = true) (hl : Nat.ble cs.length 1000 = true) :
    Eff Γ e As ⟨d, .buildSlice t 1 #[(0, x)], ty, pos, af, gd⟩ (fun v As' => ∃ b, v = .slice (some ⟨b, 0, none⟩) 1 1 ∧ As' = .blk b cs el :: As) := .mk fun a w ha hw => by
  have hs := Nat.eq_of_beq_eq_true hs
  have hz := Nat.eq_of_beq_eq_true hz
  have hl : cs.length ≤ 1000 := by simpa [Nat.ble_eq] using hl
  obtain ⟨z, h1, h2⟩ := run_zeroValue (Γ.ok el ie he) w
  have h3 : z.cells.size = cs.length := by rw [← Array.length_toList, h2, hz, hs]
  have h4 : v.cells.size = cs.length := by rw [← Array.length_toList, hc]
  have hfill : ∀ base : Array Value, base.size = cs.length → Instr.fill (fun i => some (i * ie.size, ie.size)) base [(0, v)] = some v.cells := by
    intro base hb
    have h5 : v.cells.zipIdx.foldl (fun (cs : Array Value) (p : Value × Nat) => cs.setIfInBounds (0 + p.2) p.1) base.toList.toArray = (setL base.toList 0 v.cells.toList).toArray := by
      rw [← Array.foldl_toList, Array.toList_zipIdx]
      exact foldl_set v.cells.toList 0 0 base.toList
    have h6 : ∀ (vs pre bs : List Value), bs.length = vs.length → setL (pre ++ bs) pre.length vs = pre ++ vs := by
      intro vs
      induction vs with
      | nil => intro pre bs hb; simp [setL, List.eq_nil_of_length_eq_zero hb]
      | cons u us ih =>
        intro pre bs hb
        cases bs with
        | nil => simp at hb
        | cons b bs =>
          simp only [setL]
          have e1 : (pre ++ b :: bs).set pre.length u = (pre ++ [u]) ++ bs := by simp
          have e2 := ih (pre ++ [u]) bs (by simpa using hb)
          rw [e1, show pre.length + 1 = (pre ++ [u]).length by simp, e2]
          simp
    have h7 := h6 v.cells.toList [] base.toList (by simp [hb, h4])
    simp only [List.nil_append, List.length_nil] at h7
    rw [h7] at h5
    simp only [Array.toArray_toList] at h5
    simp only [Instr.fill, Nat.zero_mul, hs, h4, hb]
    simp [Instr.fill]
    simpa using h5
  have h8 : (execOp a.eval ⟨d, .buildSlice t 1 #[(0, x)], ty, pos, af, gd⟩).run Γ.P w = .ok (.value (.slice (some ⟨w.heap.size, 0, none⟩) 1 1)) (w.alloc (.cells v.cells el)) := by
    have hn : ¬ (2 ^ 24 < 1 * ie.size) := by omega
    by_cases h0 : ie.size = 0
    · have hb := hfill ((Array.range (1 * ie.size)).map (#[][· % (#[] : Array Value).size]!)) (by simp; omega)
      simp only [execOp, Instr.buildSlice, Sem.run_bind, run_underlying (slice_of (Γ.ok t i ht) hd), run_sizeOf (Γ.ok el ie he), Result.andThen_ok]
      simp only [List.map_toArray, List.map_cons, List.map_nil, ha.eval hx] at hb ⊢
      simp [h0] at hb ⊢
      simp [hb, newRow]
    · have hb := hfill ((Array.range (1 * ie.size)).map (z.cells[· % z.cells.size]!)) (by simp; omega)
      simp only [execOp, Instr.buildSlice, Sem.run_bind, run_underlying (slice_of (Γ.ok t i ht) hd), run_sizeOf (Γ.ok el ie he), Result.andThen_ok]
      simp only [List.map_toArray, List.map_cons, List.map_nil, ha.eval hx] at hb ⊢
      simp only [Nat.one_mul] at hb hn ⊢
      simp [h0, hn, h1, hb, newRow]
  unfold wpR
  rw [h8]
  refine ⟨_, _, rfl, ⟨w.heap.size, rfl, rfl⟩, ?_⟩
  have := hw.alloc cs el
  rw [← hc] at this ⊢
  simpa using this
end
end Go.Eng
