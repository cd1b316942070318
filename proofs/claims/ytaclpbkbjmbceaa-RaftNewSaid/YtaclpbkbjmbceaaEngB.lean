/-
  THE ENGINE's OPERATIONS: what each yields or does, said of the engine's state; and the rules by which code is walked.
-/
import Derived.Test.YtaclpbkbjmbceaaEngA
set_option linter.unusedVariables false
set_option linter.unusedSimpArgs false
namespace Go.Eng
open Go.RowKit

/-! ### 1. What is asked of a type -/
inductive TD where
  | bool | int (k : IntKind) | string | pointer | slice (e : TypeId) | struct | func | tuple | other
def TD.of : TypeDesc → TD
  | .bool => .bool
  | .int k => .int k
  | .string => .string
  | .pointer _ => .pointer
  | .slice e => .slice e
  | .struct _ => .struct
  | .func .. => .func
  | .tuple _ => .tuple
  | _ => .other
structure TyI where
  td : TD
  size : Nat
  bytes : Nat
  zero : List Value
  flds : List (Nat × Nat)
def tfind : List (Nat × TyI) → Nat → Option TyI
  | [], _ => none
  | (k, v) :: r, d => cond (Nat.beq k d) (some v) (tfind r d)
structure TyOK (P : Program) (t : TypeId) (i : TyI) : Prop where
  und : ∃ d, P.underlying t = some d ∧ TD.of d = i.td
  info : ∃ ti z, P.info? t = some ti ∧ ti.size = i.size ∧ ti.bytes = i.bytes ∧ ti.zero = some z ∧ z.cells.toList = i.zero
  fld : ∀ k o s, i.flds[k]? = some (o, s) → ∀ a w, (Instr.fieldAt t (.pointer (some a)) k).run P w = .ok (.pointer (some (a.add o))) w
  plc : i.td = .struct → ∃ fs, P.underlying t = some (.struct fs) ∧ ∀ w, (fs.mapM fun f => (do pure (f.offset, ← sizeOf f.type) : Sem (Nat × Nat))).run P w = .ok i.flds.toArray w
def TysOK (P : Program) (l : List (Nat × TyI)) : Prop := ∀ t i, tfind l t = some i → TyOK P t i
theorem TysOK.nil {P : Program} : TysOK P [] := fun _ _ h => by cases h
theorem TysOK.cons {P : Program} {l : List (Nat × TyI)} {t : Nat} {i : TyI} (h : TyOK P t i) (k : TysOK P l) : TysOK P ((t, i) :: l) := by
  intro u j hj
  change cond (Nat.beq t u) (some i) (tfind l u) = some j at hj
  cases hb : Nat.beq t u with
  | true =>
    rw [hb] at hj
    have := Nat.eq_of_beq_eq_true hb
    subst this
    simp at hj
    subst hj
    exact h
  | false => rw [hb] at hj; exact k u j hj
theorem info_mk {P : Program} {t : TypeId} {z : List Value} {s b : Nat} (h : (P.info? t).map (fun i => (i.zero.map (·.cells.toList), i.size, i.bytes)) = some (some z, s, b)) :
    ∃ ti z', P.info? t = some ti ∧ ti.size = s ∧ ti.bytes = b ∧ ti.zero = some z' ∧ z'.cells.toList = z := by
  obtain ⟨ti, h1, h2⟩ := Option.map_eq_some_iff.1 h
  simp only [Prod.mk.injEq] at h2
  obtain ⟨z', h3, h4⟩ := Option.map_eq_some_iff.1 h2.1
  exact ⟨ti, z', h1, h2.2.1, h2.2.2, h3, h4⟩

structure Ctx where
  P : Program
  tys : List (Nat × TyI)
  ok : TysOK P tys
  w0 : World
  F0 : Nat → Prop
  n : Nat

def Γ.E (Γ : Ctx) (e : Env) (a : Act) : Prop := EnvOK Γ.n e a
abbrev Γ.H (Γ : Ctx) (As : List Atom) (w : World) : Prop := HeapOK Γ.w0 Γ.F0 As w

/-- An operation yields this value, and leaves the world alone. -/
structure Val (Γ : Ctx) (e : Env) (As : List Atom) (o : Oper) (v : Value) : Prop where mk :: (h : ∀ a w, EnvOK Γ.n e a → HeapOK Γ.w0 Γ.F0 As w → (execOp a.eval o).run Γ.P w = .ok (.value v) w)
/-- An operation turns the heap. -/
structure Eff (Γ : Ctx) (e : Env) (As : List Atom) (o : Oper) (R : Value → List Atom → Prop) : Prop where
  mk :: (h : ∀ a w, EnvOK Γ.n e a → HeapOK Γ.w0 Γ.F0 As w → wpR Γ.P o a w fun a' w' => ∃ v As', a' = a.put o.dst v ∧ R v As' ∧ HeapOK Γ.w0 Γ.F0 As' w')

section
variable {Γ : Ctx} {e : Env} {As As' : List Atom} {d : Option Tmp} {ty : TypeId} {pos : String} {af : Array Edge} {gd : Option (Nat × Bool)} {t : TypeId} {i : TyI}

theorem run_isAgg {P : Program} (h : TyOK P t i) (w : World) : (isAgg t).run P w = .ok (match i.td with | .struct => true | .other => (match P.underlying t with | some (.array ..) => true | _ => false) | _ => false) w := by
  obtain ⟨d, h1, h2⟩ := h.und
  simp only [isAgg, Sem.run_bind, run_underlying h1, Result.andThen_ok]
  rw [h1, ← h2]
  cases d <;> simp [TD.of]
theorem run_sizeOf {P : Program} (h : TyOK P t i) (w : World) : (sizeOf t).run P w = .ok i.size w := by
  obtain ⟨ti, z, h1, h2, _⟩ := h.info
  simp [sizeOf, typeInfo, h1, h2]
theorem run_zeroValue {P : Program} (h : TyOK P t i) (w : World) : ∃ z, (zeroValue t).run P w = .ok z w ∧ z.cells.toList = i.zero := by
  obtain ⟨ti, z, h1, h2, h3, h4, h5⟩ := h.info
  exact ⟨z, by simp [zeroValue, typeInfo, h1, h4], h5⟩

/-! ### 2. Operations that yield a value -/
theorem val_move {x : Operand} {v : Value} (h : ev e x = some v) : Val Γ e As ⟨d, .move x, ty, pos, af, gd⟩ v := .mk fun a w ha hw => by simp [execOp, ha.eval h]
theorem val_assign {x : Operand} {v : Value} (h : ev e x = some v) : Val Γ e As ⟨d, .assign x, ty, pos, af, gd⟩ v := .mk fun a w ha hw => by simp [execOp, ha.eval h]
theorem val_pick_t {c x y : Operand} {v : Value} (hc : ev e c = some (.bool true)) (h : ev e x = some v) : Val Γ e As ⟨d, .pick c x y, ty, pos, af, gd⟩ v := .mk fun a w ha hw => by simp [execOp, ha.eval hc, ha.eval h, asBool]
theorem val_pick_f {c x y : Operand} {v : Value} (hc : ev e c = some (.bool false)) (h : ev e y = some v) : Val Γ e As ⟨d, .pick c x y, ty, pos, af, gd⟩ v := .mk fun a w ha hw => by simp [execOp, ha.eval hc, ha.eval h, asBool]
theorem val_extract {x : Operand} {k : Nat} {vs : List Value} {v : Value} (hx : ev e x = some (.tuple vs.toArray)) (h : vs[k]? = some v) : Val Γ e As ⟨d, .extract x k, ty, pos, af, gd⟩ v := .mk fun a w ha hw => by
  simp [execOp, ha.eval hx, Instr.extract, h]
theorem val_nilCheck {x : Operand} {ad : Addr} (h : ev e x = some (.pointer (some ad))) : Val Γ e As ⟨d, .nilCheck x, ty, pos, af, gd⟩ (.pointer (some ad)) := .mk fun a w ha hw => by simp [execOp, ha.eval h]
theorem val_nilCheck_func {x : Operand} {f : FuncId} {xs ys : Array Value} (h : ev e x = some (.func (.func f) xs ys)) : Val Γ e As ⟨d, .nilCheck x, ty, pos, af, gd⟩ (.func (.func f) xs ys) := .mk fun a w ha hw => by simp [execOp, ha.eval h]
theorem val_makeFunc {f : FuncId} {xs ys : Array Operand} {us vs : List Value} (hx : evL e xs.toList = some us) (hy : evL e ys.toList = some vs) :
    Val Γ e As ⟨d, .makeFunc (.func f) xs ys, ty, pos, af, gd⟩ (.func (.func f) us.toArray vs.toArray) := .mk fun a w ha hw => by
  have h1 : xs.map a.eval = us.toArray := by apply Array.ext'; rw [Array.toList_map, ha.evalL hx]
  have h2 : ys.map a.eval = vs.toArray := by apply Array.ext'; rw [Array.toList_map, ha.evalL hy]
  simp [execOp, Instr.makeFunc, h1, h2]
theorem val_fieldAddr_blk {x : Operand} {k g o o' : Nat} {f1 f2 : Nat} (hx : ev e x = some (.pointer (some ⟨g, o, none⟩))) (ht : tfind Γ.tys t = some i) (hf : i.flds[k]? = some (f1, f2)) (ho : o + f1 = o') :
    Val Γ e As ⟨d, .fieldAddr t x k, ty, pos, af, gd⟩ (.pointer (some ⟨g, o', none⟩)) := .mk fun a w ha hw => by
  subst ho
  have := (Γ.ok t i ht).fld k f1 f2 hf ⟨g, o, none⟩ w
  rw [add_mk] at this
  simp [execOp, ha.eval hx, this]
theorem val_fieldAddr {x : Operand} {k : Nat} {ad : Addr} {f1 f2 : Nat} (hx : ev e x = some (.pointer (some ad))) (ht : tfind Γ.tys t = some i) (hf : i.flds[k]? = some (f1, f2)) :
    Val Γ e As ⟨d, .fieldAddr t x k, ty, pos, af, gd⟩ (.pointer (some (ad.add f1))) := .mk fun a w ha hw => by
  have := (Γ.ok t i ht).fld k f1 f2 hf ad w
  simp [execOp, ha.eval hx, this]
/-- scalars: not kept as several cells -/
def TD.scalar : TD → Bool
  | .struct | .other => false
  | _ => true
theorem run_loadVar_scalar {P : Program} (h : TyOK P t i) (hs : i.td.scalar = true) (ad : Addr) (v : Value) (w : World) (hc : w.cell? ad = some v) : (loadVar t ad).run P w = .ok v w := by
  have h1 := run_isAgg h w
  cases hd : i.td <;> rw [hd] at h1 hs <;> simp only [TD.scalar, Bool.false_eq_true] at hs <;> simp [loadVar, h1, hc]
theorem val_load {x : Operand} {g k : Nat} {cs : List Value} {u : TypeId} {v : Value} (hx : ev e x = some (.pointer (some ⟨g, k, none⟩))) (hA : Has As (.blk g cs u)) (ht : tfind Γ.tys t = some i) (hs : i.td.scalar = true) (hv : cs[k]? = some v) :
    Val Γ e As ⟨d, .load t x, ty, pos, af, gd⟩ v := .mk fun a w ha hw => by
  have h1 := run_loadVar_scalar (Γ.ok t i ht) hs ⟨g, k, none⟩ v w ((hw.cell hA k).trans hv)
  simp [execOp, ha.eval hx, Instr.loadAt, Instr.sureAddr, h1]
theorem run_loadCellsFrom {P : Program} (w : World) (b o : Nat) : ∀ (n j : Nat) (acc vs : List Value), vs.length = n → (∀ i u, vs[i]? = some u → w.cell? ⟨b, o + (j + i), none⟩ = some u) →
    (loadCellsFrom ⟨b, o, none⟩ j n acc.toArray).run P w = .ok (acc ++ vs).toArray w
  | 0, j, acc, vs, hl, _ => by
    obtain rfl := List.eq_nil_of_length_eq_zero hl
    simp [loadCellsFrom]
  | n + 1, j, acc, vs, hl, hc => by
    cases vs with
    | nil => simp at hl
    | cons v vs =>
      have h0 : w.cell? ((⟨b, o, none⟩ : Addr).add j) = some v := by rw [add_mk]; exact hc 0 v rfl
      have ih := run_loadCellsFrom (P := P) w b o n (j + 1) (acc ++ [v]) vs (by simpa using hl) fun i u hu => by
        have := hc (i + 1) u (by simpa using hu)
        rw [show j + 1 + i = j + (i + 1) by omega]
        exact this
      simp only [loadCellsFrom, Sem.run_bind, run_load, h0, Result.andThen_ok, List.push_toArray]
      rw [ih]
      simp
theorem run_loadVar_agg {P : Program} (h : TyOK P t i) (hs : i.td = .struct) (b o : Nat) (vs : List Value) (w : World) (hl : vs.length = i.size) (hc : ∀ j u, vs[j]? = some u → w.cell? ⟨b, o + j, none⟩ = some u) :
    (loadVar t ⟨b, o, none⟩).run P w = .ok (.agg vs.toArray) w := by
  have h1 := run_isAgg h w
  rw [hs] at h1
  have h2 := run_loadCellsFrom (P := P) w b o i.size 0 [] vs hl (fun j u hu => by simpa using hc j u hu)
  simp only [List.nil_append] at h2
  simp [loadVar, h1, run_sizeOf h w, loadCells, h2]
theorem val_load_agg {x : Operand} {g k : Nat} {cs vs : List Value} {u : TypeId} (hx : ev e x = some (.pointer (some ⟨g, k, none⟩))) (hA : Has As (.blk g cs u)) (ht : tfind Γ.tys t = some i) (hs : i.td = .struct) (hv : (cs.drop k).take i.size = vs) (hl : vs.length = i.size) :
    Val Γ e As ⟨d, .load t x, ty, pos, af, gd⟩ (.agg vs.toArray) := .mk fun a w ha hw => by
  have h1 := run_loadVar_agg (Γ.ok t i ht) hs g k vs w hl fun j u hu => by
    rw [hw.cell hA, ← hu, ← hv, List.getElem?_take, List.getElem?_drop]
    have hj : j < i.size := by have := (List.getElem?_eq_some_iff.1 hu).1; omega
    rw [if_pos hj]
  simp [execOp, ha.eval hx, Instr.loadAt, Instr.sureAddr, h1]
/-- an element's cell, of a slice that is read -/
theorem val_load_elt {x : Operand} {A : Option Addr} {s : Nat} {j : Int} {o : Nat} {xs : List (List Value)} {c : List Value} {v : Value} (hx : ev e x = some (.pointer (some ((eptr A s j).add o)))) (hR : ∀ w, HeapOK Γ.w0 Γ.F0 As w → Rd w A s xs) (hc : xs[j.toNat]? = some c) (ht : tfind Γ.tys t = some i) (hs : i.td.scalar = true) (hv : c[o]? = some v) :
    Val Γ e As ⟨d, .load t x, ty, pos, af, gd⟩ v := .mk fun a w ha hw => by
  obtain ⟨b, q, rfl, hcell⟩ := hR w hw (by have := (List.getElem?_eq_some_iff.1 hc).1; omega)
  have h2 := (hcell _ c hc).2 o v hv
  have h1 := run_loadVar_scalar (Γ.ok t i ht) hs ((eptr (some ⟨b, q, none⟩) s j).add o) v w (by rw [eptr, add_mk]; exact h2)
  simp [execOp, ha.eval hx, Instr.loadAt, Instr.sureAddr, h1]
theorem val_load_elt0 {x : Operand} {A : Option Addr} {s : Nat} {j : Int} {xs : List (List Value)} {c : List Value} {v : Value} (hx : ev e x = some (.pointer (some (eptr A s j)))) (hR : ∀ w, HeapOK Γ.w0 Γ.F0 As w → Rd w A s xs) (hc : xs[j.toNat]? = some c) (ht : tfind Γ.tys t = some i) (hs : i.td.scalar = true) (hv : c[0]? = some v) :
    Val Γ e As ⟨d, .load t x, ty, pos, af, gd⟩ v := val_load_elt (o := 0) (by rw [hx]; rfl) hR hc ht hs hv
theorem val_load_elt_agg {x : Operand} {A : Option Addr} {s : Nat} {j : Int} {o : Nat} {xs : List (List Value)} {c vs : List Value} (hx : ev e x = some (.pointer (some ((eptr A s j).add o)))) (hR : ∀ w, HeapOK Γ.w0 Γ.F0 As w → Rd w A s xs) (hc : xs[j.toNat]? = some c) (ht : tfind Γ.tys t = some i) (hs : i.td = .struct) (hv : (c.drop o).take i.size = vs) (hl : vs.length = i.size) :
    Val Γ e As ⟨d, .load t x, ty, pos, af, gd⟩ (.agg vs.toArray) := .mk fun a w ha hw => by
  obtain ⟨b, q, rfl, hcell⟩ := hR w hw (by have := (List.getElem?_eq_some_iff.1 hc).1; omega)
  have h1 := run_loadVar_agg (Γ.ok t i ht) hs b (q + j.toNat * s + o) vs w hl fun k u hu => by
    have hk : k < i.size := by have := (List.getElem?_eq_some_iff.1 hu).1; omega
    have := (hcell _ c hc).2 (o + k) u (by rw [← hu, ← hv, List.getElem?_take, List.getElem?_drop, if_pos hk])
    rw [← Nat.add_assoc] at this
    exact this
  have h3 : (eptr (some ⟨b, q, none⟩) s j).add o = ⟨b, q + j.toNat * s + o, none⟩ := by rw [eptr, add_mk]
  simp [execOp, ha.eval hx, Instr.loadAt, Instr.sureAddr, h3, h1]
theorem val_load_elt_agg0 {x : Operand} {A : Option Addr} {s : Nat} {j : Int} {xs : List (List Value)} {c : List Value} (hx : ev e x = some (.pointer (some (eptr A s j)))) (hR : ∀ w, HeapOK Γ.w0 Γ.F0 As w → Rd w A s xs) (hc : xs[j.toNat]? = some c) (ht : tfind Γ.tys t = some i) (hs : i.td = .struct) (hl : c.length = i.size) :
    Val Γ e As ⟨d, .load t x, ty, pos, af, gd⟩ (.agg c.toArray) := val_load_elt_agg (o := 0) (by rw [hx]; rfl) hR hc ht hs (by rw [List.drop_zero, ← hl, List.take_length]) hl

/-- an index -/
theorem val_indexAddr {x y : Operand} {A : Option Addr} {n c : Nat} {k : IntKind} {j : Int} {el : TypeId} {ie : TyI} (hx : ev e x = some (.slice A n c)) (hy : ev e y = some (.int k j)) (ht : tfind Γ.tys t = some i) (hd : i.td = .slice el) (he : tfind Γ.tys el = some ie)
    (h0 : 0 ≤ j) (h1 : j < n) (hA : ∀ w, HeapOK Γ.w0 Γ.F0 As w → ∃ b o, A = some ⟨b, o, none⟩) : Val Γ e As ⟨d, .indexAddr t x y, ty, pos, af, gd⟩ (.pointer (some (eptr A ie.size j))) := .mk fun a w ha hw => by
  obtain ⟨b, o, rfl⟩ := hA w hw
  obtain ⟨dd, h2, h3⟩ := (Γ.ok t i ht).und
  rw [hd] at h3
  have h4 : dd = .slice el := by cases dd <;> simp_all [TD.of]
  subst h4
  simp [execOp, ha.eval hx, ha.eval hy, Instr.indexAt, asIntOf, run_underlying h2, h0, h1, run_sizeOf (Γ.ok el ie he), add_mk, eptr]
theorem some_of_rd {w : World} {A : Option Addr} {s : Nat} {xs : List (List Value)} (h : Rd w A s xs) (hn : 0 < xs.length) : ∃ b o, A = some ⟨b, o, none⟩ := by
  obtain ⟨b, o, h1, _⟩ := h hn
  exact ⟨b, o, h1⟩

/-! ### 3. Arithmetic, tests -/
theorem val_bin {op : BinOp} {xt yt : TypeId} {x y : Operand} {u1 u2 v : Value} (hx : ev e x = some u1) (hy : ev e y = some u2) (hg : ∀ w, (eqGuard op xt x y u1 u2).run Γ.P w = .ok () w) (h : ∀ w, (binOp op xt u1 u2).run Γ.P w = .ok v w) :
    Val Γ e As ⟨d, .binOp op xt x y yt, ty, pos, af, gd⟩ v := .mk fun a w ha hw => by
  simp [execOp, ha.eval hx, ha.eval hy, hg, h]
theorem guard_int {P : Program} (op : BinOp) (xt : TypeId) (x y : Operand) (k k' : IntKind) (a b : Int) (w : World) : (eqGuard op xt x y (.int k a) (.int k' b)).run P w = .ok () w := by
  unfold eqGuard
  cases op <;> simp
theorem guard_str {P : Program} (op : BinOp) (xt : TypeId) (x y : Operand) (a b : ByteArray) (w : World) : (eqGuard op xt x y (.string a) (.string b)).run P w = .ok () w := by
  unfold eqGuard
  cases op <;> simp
theorem guard_bool {P : Program} (op : BinOp) (xt : TypeId) (x y : Operand) (a b : Bool) (w : World) : (eqGuard op xt x y (.bool a) (.bool b)).run P w = .ok () w := by
  unfold eqGuard
  cases op <;> simp
section
variable {xt yt : TypeId} {x y : Operand} {k : IntKind} {m n : Int}
theorem val_add (hx : ev e x = some (.int .i64 m)) (hy : ev e y = some (.int .i64 n)) (h : -9223372036854775808 ≤ m + n ∧ m + n ≤ 9223372036854775807) : Val Γ e As ⟨d, .binOp .add xt x y yt, ty, pos, af, gd⟩ (.int .i64 (m + n)) :=
  val_bin hx hy (fun w => guard_int _ _ _ _ _ _ _ _ w) fun w => by
    have : IntKind.i64.wrap (m + n) = m + n := IntWalk.i64_in _ (by omega)
    simp [binOp, Op.intArith, this]
theorem val_sub (hx : ev e x = some (.int .i64 m)) (hy : ev e y = some (.int .i64 n)) (h : -9223372036854775808 ≤ m - n ∧ m - n ≤ 9223372036854775807) : Val Γ e As ⟨d, .binOp .sub xt x y yt, ty, pos, af, gd⟩ (.int .i64 (m - n)) :=
  val_bin hx hy (fun w => guard_int _ _ _ _ _ _ _ _ w) fun w => by
    have : IntKind.i64.wrap (m - n) = m - n := IntWalk.i64_in _ (by omega)
    simp [binOp, Op.intArith, this]
theorem val_addW (hx : ev e x = some (.int k m)) (hy : ev e y = some (.int k n)) : Val Γ e As ⟨d, .binOp .add xt x y yt, ty, pos, af, gd⟩ (.int k (k.wrap (m + n))) :=
  val_bin hx hy (fun w => guard_int _ _ _ _ _ _ _ _ w) fun w => by simp [binOp, Op.intArith]
theorem val_subW (hx : ev e x = some (.int k m)) (hy : ev e y = some (.int k n)) : Val Γ e As ⟨d, .binOp .sub xt x y yt, ty, pos, af, gd⟩ (.int k (k.wrap (m - n))) :=
  val_bin hx hy (fun w => guard_int _ _ _ _ _ _ _ _ w) fun w => by simp [binOp, Op.intArith]
theorem val_mulW (hx : ev e x = some (.int k m)) (hy : ev e y = some (.int k n)) : Val Γ e As ⟨d, .binOp .mul xt x y yt, ty, pos, af, gd⟩ (.int k (k.wrap (m * n))) :=
  val_bin hx hy (fun w => guard_int _ _ _ _ _ _ _ _ w) fun w => by simp [binOp, Op.intArith]
theorem val_lss (hx : ev e x = some (.int k m)) (hy : ev e y = some (.int k n)) : Val Γ e As ⟨d, .binOp .lss xt x y yt, ty, pos, af, gd⟩ (.bool (decide (m < n))) :=
  val_bin hx hy (fun w => guard_int _ _ _ _ _ _ _ _ w) fun w => by simp [binOp, Op.intCmp]
theorem val_leq (hx : ev e x = some (.int k m)) (hy : ev e y = some (.int k n)) : Val Γ e As ⟨d, .binOp .leq xt x y yt, ty, pos, af, gd⟩ (.bool (decide (m ≤ n))) :=
  val_bin hx hy (fun w => guard_int _ _ _ _ _ _ _ _ w) fun w => by simp [binOp, Op.intCmp]
theorem val_gtr (hx : ev e x = some (.int k m)) (hy : ev e y = some (.int k n)) : Val Γ e As ⟨d, .binOp .gtr xt x y yt, ty, pos, af, gd⟩ (.bool (decide (n < m))) :=
  val_bin hx hy (fun w => guard_int _ _ _ _ _ _ _ _ w) fun w => by simp [binOp, Op.intCmp]
theorem val_geq (hx : ev e x = some (.int k m)) (hy : ev e y = some (.int k n)) : Val Γ e As ⟨d, .binOp .geq xt x y yt, ty, pos, af, gd⟩ (.bool (decide (n ≤ m))) :=
  val_bin hx hy (fun w => guard_int _ _ _ _ _ _ _ _ w) fun w => by simp [binOp, Op.intCmp]
theorem val_eql (hx : ev e x = some (.int k m)) (hy : ev e y = some (.int k n)) : Val Γ e As ⟨d, .binOp .eql xt x y yt, ty, pos, af, gd⟩ (.bool (decide (m = n))) :=
  val_bin hx hy (fun w => guard_int _ _ _ _ _ _ _ _ w) fun w => by simp [binOp, Op.intCmp]; rfl
theorem val_neq (hx : ev e x = some (.int k m)) (hy : ev e y = some (.int k n)) : Val Γ e As ⟨d, .binOp .neq xt x y yt, ty, pos, af, gd⟩ (.bool (decide (m ≠ n))) :=
  val_bin hx hy (fun w => guard_int _ _ _ _ _ _ _ _ w) fun w => by simp [binOp, Op.intCmp]; by_cases h : m = n <;> simp [h]
end
theorem val_not {xt : TypeId} {x : Operand} {b : Bool} (hx : ev e x = some (.bool b)) : Val Γ e As ⟨d, .unOp .not xt x, ty, pos, af, gd⟩ (.bool (!b)) := .mk fun a w ha hw => by simp [execOp, ha.eval hx, Op.unary]
theorem val_len_slice {x : Operand} {ats : Array TypeId} {A : Option Addr} {n c : Nat} {el : TypeId} (hat : ats[0]? = some t) (ht : tfind Γ.tys t = some i) (hd : i.td = .slice el) (hx : ev e x = some (.slice A n c)) :
    Val Γ e As ⟨d, .call { callee := .builtin .len, args := #[x], argTypes := ats }, ty, pos, af, gd⟩ (.int .i64 n) := .mk fun a w ha hw => by
  obtain ⟨dd, h2, h3⟩ := (Γ.ok t i ht).und
  rw [hd] at h3
  have h4 : dd = .slice el := by cases dd <;> simp_all [TD.of]
  subst h4
  simp [execOp, resolve, invoke, builtin, Builtin.len_, hat, ha.eval hx, run_underlying h2, goInt]
theorem val_len_string {x : Operand} {ats : Array TypeId} {s : ByteArray} (hat : ats[0]? = some t) (ht : tfind Γ.tys t = some i) (hd : i.td = .string) (hx : ev e x = some (.string s)) :
    Val Γ e As ⟨d, .call { callee := .builtin .len, args := #[x], argTypes := ats }, ty, pos, af, gd⟩ (.int .i64 s.size) := .mk fun a w ha hw => by
  obtain ⟨dd, h2, h3⟩ := (Γ.ok t i ht).und
  rw [hd] at h3
  have h4 : dd = .string := by cases dd <;> simp_all [TD.of]
  subst h4
  simp [execOp, resolve, invoke, builtin, Builtin.len_, hat, ha.eval hx, run_underlying h2, goInt]
theorem val_min {x y : Operand} {ats : Array TypeId} {k : IntKind} {m n : Int} (hx : ev e x = some (.int k m)) (hy : ev e y = some (.int k n)) :
    Val Γ e As ⟨d, .call { callee := .builtin .min, args := #[x, y], argTypes := ats }, ty, pos, af, gd⟩ (.int k (min m n)) := .mk fun a w ha hw => by
  have : (if n < m then n else m) = min m n := by rw [Int.min_def]; split <;> split <;> omega
  simp [execOp, resolve, invoke, builtin, Builtin.min_, Builtin.min2, ha.eval hx, ha.eval hy, this]
theorem val_max {x y : Operand} {ats : Array TypeId} {k : IntKind} {m n : Int} (hx : ev e x = some (.int k m)) (hy : ev e y = some (.int k n)) :
    Val Γ e As ⟨d, .call { callee := .builtin .max, args := #[x, y], argTypes := ats }, ty, pos, af, gd⟩ (.int k (max m n)) := .mk fun a w ha hw => by
  have : (if n > m then n else m) = max m n := by rw [Int.max_def]; split <;> split <;> omega
  simp [execOp, resolve, invoke, builtin, Builtin.max_, Builtin.max2, ha.eval hx, ha.eval hy, this]
end
end Go.Eng
