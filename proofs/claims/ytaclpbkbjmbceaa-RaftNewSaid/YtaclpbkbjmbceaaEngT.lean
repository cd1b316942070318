/-
  THE ENGINE's SHORT FORMS, third part: bits, strings cut and joined, slices made.
-/
import Derived.Test.YtaclpbkbjmbceaaEngS
set_option linter.unusedVariables false
set_option linter.unusedSimpArgs false
namespace Go.Eng
open Go.RowKit
section
variable {Γ : Ctx} {e : Env} {As Rs : List Atom} {d : Option Tmp} {ty : TypeId} {pos : String} {af : Array Edge} {gd : Option (Nat × Bool)} {t el : TypeId} {i ie : TyI} {x y z : Operand} {v : Value} {k k' k'' : IntKind} {m n : Int} {A : Option Addr} {ln c : Nat} {ats : Array TypeId} {xt yt : TypeId} {s p q : ByteArray}
def xorI (k : IntKind) (m n : Int) : Int := k.wrap (BitVec.ofInt k.bits m ^^^ BitVec.ofInt k.bits n).toNat
def andI (k : IntKind) (m n : Int) : Int := k.wrap (BitVec.ofInt k.bits m &&& BitVec.ofInt k.bits n).toNat
def orI (k : IntKind) (m n : Int) : Int := k.wrap (BitVec.ofInt k.bits m ||| BitVec.ofInt k.bits n).toNat
theorem v_xor (hx : ev e x = some (.int k m) := by exact rfl) (hy : ev e y = some (.int k n) := by exact rfl) : Val Γ e As ⟨d, .binOp .xor xt x y yt, ty, pos, af, gd⟩ (.int k (xorI k m n)) :=
  val_bin hx hy (fun w => guard_int _ _ _ _ _ _ _ _ w) fun w => by simp [binOp, Op.intBits, xorI]
theorem v_and (hx : ev e x = some (.int k m) := by exact rfl) (hy : ev e y = some (.int k n) := by exact rfl) : Val Γ e As ⟨d, .binOp .and xt x y yt, ty, pos, af, gd⟩ (.int k (andI k m n)) :=
  val_bin hx hy (fun w => guard_int _ _ _ _ _ _ _ _ w) fun w => by simp [binOp, Op.intBits, andI]
theorem v_or (hx : ev e x = some (.int k m) := by exact rfl) (hy : ev e y = some (.int k n) := by exact rfl) : Val Γ e As ⟨d, .binOp .or xt x y yt, ty, pos, af, gd⟩ (.int k (orI k m n)) :=
  val_bin hx hy (fun w => guard_int _ _ _ _ _ _ _ _ w) fun w => by simp [binOp, Op.intBits, orI]
theorem v_cat (hx : ev e x = some (.string p) := by exact rfl) (hy : ev e y = some (.string q) := by exact rfl) (h : p.size + q.size ≤ 9223372036854775807 := by omega) : Val Γ e As ⟨d, .binOp .add xt x y yt, ty, pos, af, gd⟩ (.string (p ++ q)) :=
  val_bin hx hy (fun w => guard_str _ _ _ _ _ _ w) fun w => by
    have h1 : ¬ (((p.size + q.size : Nat) : Int) > IntKind.i64.max) := by simp [IntKind.max, IntKind.signed, IntKind.bits]; omega
    simp only [binOp, Op.stringOp, if_neg h1, Sem.run_pure]
theorem val_sliceS {lo hi : Option Operand} {l h : Nat} (hx : ev e x = some (.string s)) (ht : tfind Γ.tys t = some i) (hd : i.td = .string)
    (hb : ∀ a w, EnvOK Γ.n e a → (Instr.sliceBounds false s.size s.size (lo.map a.eval) (hi.map a.eval) none).run Γ.P w = .ok (l, h, s.size) w) :
    Val Γ e As ⟨d, .slice t x lo hi none, ty, pos, af, gd⟩ (.string (s.extract l h)) := .mk fun a w ha hw => by
  have h1 : (Instr.slice t (.string s) (lo.map a.eval) (hi.map a.eval) none).run Γ.P w = .ok (.string (s.extract l h)) w := by
    simp [Instr.slice, run_underlying (string_of (Γ.ok t i ht) hd), hb a w ha]
  try simp only [Option.map_none] at h1
  simp only [execOp, ha.eval hx, Sem.run_bind, Instr.sliceAt, run_underlying (string_of (Γ.ok t i ht) hd), Result.andThen_ok, Option.map_none, h1, Sem.run_pure]
theorem v_cutLo (hx : ev e x = some (.string s) := by exact rfl) (ht : tfind Γ.tys t = some i := by exact rfl) (hd : i.td = .string := by exact rfl) (hy : ev e y = some (.int k m) := by exact rfl) (h0 : 0 ≤ m := by omega) (h1 : m ≤ s.size := by omega) : Val Γ e As ⟨d, .slice t x (some y) none none, ty, pos, af, gd⟩ (.string (s.extract m.toNat s.size)) :=
  val_sliceS hx ht hd fun a w ha => by simp only [Instr.sliceBounds, Option.map_some, Option.map_none, ha.eval hy, Sem.run_bind, Sem.run_pure, Result.andThen_ok, sb_ok h0 h1]
theorem v_cutHi (hx : ev e x = some (.string s) := by exact rfl) (ht : tfind Γ.tys t = some i := by exact rfl) (hd : i.td = .string := by exact rfl) (hy : ev e y = some (.int k m) := by exact rfl) (h0 : 0 ≤ m := by omega) (h1 : m ≤ s.size := by omega) : Val Γ e As ⟨d, .slice t x none (some y) none, ty, pos, af, gd⟩ (.string (s.extract 0 m.toNat)) :=
  val_sliceS hx ht hd fun a w ha => by simp only [Instr.sliceBounds, Option.map_some, Option.map_none, ha.eval hy, Sem.run_bind, Sem.run_pure, Result.andThen_ok, sb_ok h0 h1, Option.isSome_none, Bool.false_eq_true, if_false]
theorem v_cutLH (hx : ev e x = some (.string s) := by exact rfl) (ht : tfind Γ.tys t = some i := by exact rfl) (hd : i.td = .string := by exact rfl) (hy : ev e y = some (.int k m) := by exact rfl) (hz : ev e z = some (.int k' n) := by exact rfl) (h0 : 0 ≤ m := by omega) (h1 : m ≤ n := by omega) (h2 : n ≤ s.size := by omega) : Val Γ e As ⟨d, .slice t x (some y) (some z) none, ty, pos, af, gd⟩ (.string (s.extract m.toNat n.toNat)) :=
  val_sliceS hx ht hd fun a w ha => by
    have a1 : (0 : Int) ≤ n := by omega
    have a3 : m ≤ (n.toNat : Int) := by omega
    simp only [Instr.sliceBounds, Option.map_some, Option.map_none, ha.eval hy, ha.eval hz, Sem.run_bind, Sem.run_pure, Result.andThen_ok, sb_ok a1 h2, sb_ok h0 a3, Option.isSome_none, Bool.false_eq_true, if_false]
theorem v_sliceLHM {u : Operand} {b : Int} (hx : ev e x = some (.slice A ln c) := by exact rfl) (ht : tfind Γ.tys t = some i := by exact rfl) (hd : i.td = .slice el := by exact rfl) (he : tfind Γ.tys el = some ie := by exact rfl) (hy : ev e y = some (.int k m) := by exact rfl) (hz : ev e z = some (.int k' n) := by exact rfl) (hu : ev e u = some (.int k'' b) := by exact rfl) (h0 : 0 ≤ m := by omega) (h1 : m ≤ n := by omega) (h2 : n ≤ b := by omega) (h3 : b ≤ c := by omega) : Val Γ e As ⟨d, .slice t x (some y) (some z) (some u), ty, pos, af, gd⟩ (.slice (cutA A ie.size b.toNat m.toNat) (n.toNat - m.toNat) (b.toNat - m.toNat)) := val_slice_lhm hx ht hd he hy hz hu h0 h1 h2 h3
/-! ### What is the same on both sides -/
theorem v_eqlS (hx : ev e x = some (.int k m) := by exact rfl) (hy : ev e y = some (.int k m) := by exact rfl) : Val Γ e As ⟨d, .binOp .eql xt x y yt, ty, pos, af, gd⟩ (.bool true) := by
  have h := val_eql (Γ := Γ) (As := As) (d := d) (ty := ty) (pos := pos) (af := af) (gd := gd) (xt := xt) (yt := yt) hx hy
  simpa using h
theorem v_neqS (hx : ev e x = some (.int k m) := by exact rfl) (hy : ev e y = some (.int k m) := by exact rfl) : Val Γ e As ⟨d, .binOp .neq xt x y yt, ty, pos, af, gd⟩ (.bool false) := by
  have h := val_neq (Γ := Γ) (As := As) (d := d) (ty := ty) (pos := pos) (af := af) (gd := gd) (xt := xt) (yt := yt) hx hy
  simpa using h
theorem v_seqlS (hx : ev e x = some (.string p) := by exact rfl) (hy : ev e y = some (.string p) := by exact rfl) : Val Γ e As ⟨d, .binOp .eql xt x y yt, ty, pos, af, gd⟩ (.bool true) := by
  have h := val_str_eql (Γ := Γ) (As := As) (d := d) (ty := ty) (pos := pos) (af := af) (gd := gd) (xt := xt) (yt := yt) hx hy
  simpa using h
theorem v_beqlS {p : Bool} {ix : TyI} (hx : ev e x = some (.bool p) := by exact rfl) (hy : ev e y = some (.bool p) := by exact rfl) (ht : tfind Γ.tys xt = some ix := by exact rfl) (hb : ix.td = .bool := by exact rfl) : Val Γ e As ⟨d, .binOp .eql xt x y yt, ty, pos, af, gd⟩ (.bool true) := by
  have h := val_bool_eql (As := As) (d := d) (ty := ty) (pos := pos) (af := af) (gd := gd) (yt := yt) hx hy ht hb
  simpa using h
/-! ### append of what can be read -/
theorem e_append {A : Option Addr} {n c : Nat} {xs ys : List (List Value)} {s : Nat} (hx : ev e x = some v := by exact rfl) (hy : ev e y = some (.slice A n c) := by exact rfl) (hat : ats = #[t, t] := by exact rfl) (ht : tfind Γ.tys t = some i := by exact rfl) (hd : i.td = .slice el := by exact rfl) (he : tfind Γ.tys el = some ie := by exact rfl) (hz : Nat.beq ie.zero.length ie.size = true := by exact rfl) (hp : Nat.blt 0 ie.size = true := by exact rfl)
    (hr : Rem As (.row v el ie.size xs) Rs := by repeat (first | exact Rem.here | apply Rem.there)) (hR : Rdl Γ As A s ys := by infer_instance) (hs : s = ie.size := by exact rfl) (hn : ys.length = n := by first | exact rfl | exact List.length_map _ | simp) (ho : ∀ c ∈ ys, c.length = ie.size ∧ allOne c = true := by exact fun c hc => by obtain ⟨y, _, rfl⟩ := List.mem_map.1 hc; exact ⟨rfl, rfl⟩) (hm : (xs.length + ys.length) * ie.bytes ≤ 140737488355328 ∧ xs.length + ys.length ≤ 140737488355328 := by simp only [List.length_map]; omega) :
    Eff Γ e As ⟨d, .call { callee := .builtin .append, args := #[x, y], argTypes := ats }, ty, pos, af, gd⟩ (fun u As' => ∃ A' c', u = .slice A' (xs ++ ys).length c' ∧ As' = .row (.slice A' (xs ++ ys).length c') el ie.size (xs ++ ys) :: Rs) := by
  subst hs
  exact eff_append hx hy hat ht hd he hz hp hr hn hR.h ho hm.1 hm.2
end
/-! ### make([]T, n, c) -/
section
variable {Γ : Ctx} {e : Env} {As Rs : List Atom} {d : Option Tmp} {ty : TypeId} {pos : String} {af : Array Edge} {gd : Option (Nat × Bool)} {t el : TypeId} {i ie : TyI} {x y : Operand} {k k' : IntKind}
theorem range_zeros (z : Array Value) (m : Nat) : ((Array.range (m * z.size)).map (fun j => z[j % z.size]!)).toList = (List.replicate m z.toList).flatten := by
  have := zeroCells_flat z m
  simpa [Builtin.zeroCells] using this
theorem eff_makeSlice {m : Int} (hx : ev e x = some (.int k m)) (hy : ev e y = some (.int k' m)) (ht : tfind Γ.tys t = some i) (hd : i.td = .slice el) (he : tfind Γ.tys el = some ie) (hz : Nat.beq ie.zero.length ie.size = true) (hp : Nat.blt 0 ie.size = true) (h0 : 0 ≤ m) (hb : m.toNat * ie.bytes ≤ 140737488355328) (h63 : m ≤ 140737488355328) :
    Eff Γ e As ⟨d, .makeSlice t x y, ty, pos, af, gd⟩ (fun u As' => ∃ g, u = .slice (some ⟨g, 0, none⟩) m.toNat m.toNat ∧ As' = .row (.slice (some ⟨g, 0, none⟩) m.toNat m.toNat) el ie.size (List.replicate m.toNat ie.zero) :: As) := .mk fun a w ha hw => by
  have hz := Nat.eq_of_beq_eq_true hz
  have hp : 0 < ie.size := by simpa [Nat.blt_eq] using hp
  obtain ⟨ti, z, h1, h2, h3, h4, h5⟩ := el_info (Γ.ok el ie he)
  have hzz : z.cells.toList = ie.zero := by
    obtain ⟨ti', z2, g1, g2, g3, g4, g5⟩ := (Γ.ok el ie he).info
    rw [h1] at g1; injection g1 with g1; subst g1
    rw [h2] at g4; injection g4 with g4; subst g4
    exact g5
  have hzs : z.cells.size = ie.size := by rw [h5, hz]
  have hw1 : IntKind.i64.wrap m = m := by rw [IntKind.wrap_i64]; omega
  have hb2 : ((ie.bytes : Int) * m) ≤ 140737488355328 := by
    have e1 : ((m.toNat * ie.bytes : Nat) : Int) ≤ 140737488355328 := by omega
    rw [Int.natCast_mul] at e1
    have e2 : ((m.toNat : Nat) : Int) = m := by omega
    rw [e2, Int.mul_comm] at e1
    exact e1
  have n1 : ¬ (281474976710656 < (ie.bytes : Int) * m) := by omega
  have n2 : ¬ (m < 0) := by omega
  have hrow : ((Array.range (m.toNat * ie.size)).map (fun j => z.cells[j % z.cells.size]!)) = ((List.replicate m.toNat ie.zero).flatten).toArray := by
    have := range_zeros z.cells m.toNat
    rw [hzs, hzz] at this
    rw [hzs]
    apply Array.ext'
    simpa using this
  have h6 : (Instr.makeSlice t (.int k m) (.int k' m)).run Γ.P w = .ok (.slice (some ⟨w.heap.size, 0, none⟩) m.toNat m.toNat) (w.alloc (.cells ((List.replicate m.toNat ie.zero).flatten).toArray el)) := by
    by_cases hm0 : m.toNat * ie.size = 0
    · have e0 : m.toNat = 0 := by
        rcases Nat.mul_eq_zero.1 hm0 with h | h
        · exact h
        · omega
      simp [Instr.makeSlice, run_underlying (slice_of (Γ.ok t i ht) hd), asInt, asIntOf, typeInfo, h1, h4, hw1, n1, n2, run_sizeOf (Γ.ok el ie he), e0, newRow]
      congr 2
      exact Array.ext (by simp) fun j hj _ => by simp at hj
    · simp [Instr.makeSlice, run_underlying (slice_of (Γ.ok t i ht) hd), asInt, asIntOf, typeInfo, zeroValue, h1, h2, h4, hw1, n1, n2, run_sizeOf (Γ.ok el ie he), hm0, newRow, hrow]
  have h7 : (execOp a.eval ⟨d, .makeSlice t x y, ty, pos, af, gd⟩).run Γ.P w = .ok (.value (.slice (some ⟨w.heap.size, 0, none⟩) m.toNat m.toNat)) (w.alloc (.cells ((List.replicate m.toNat ie.zero).flatten).toArray el)) := by
    simp only [execOp, ha.eval hx, ha.eval hy, Sem.run_bind, h6, Result.andThen_ok, Sem.run_pure]
  have hrm : ∀ c ∈ List.replicate m.toNat ie.zero, c.length = ie.size := fun c hc => by rw [(List.mem_replicate.1 hc).2, hz]
  unfold wpR
  rw [h7]
  refine ⟨_, _, rfl, ⟨w.heap.size, rfl, rfl⟩, ?_⟩
  refine HeapOK.push (w' := w.alloc (.cells ((List.replicate m.toNat ie.zero).flatten).toArray el)) hw (A := .row (.slice (some ⟨w.heap.size, 0, none⟩) m.toNat m.toNat) el ie.size (List.replicate m.toNat ie.zero)) ((Below.refl _ _).alloc (Nat.le_refl _) _) ⟨⟨flatten_length hrm, .inr ⟨w.heap.size, m.toNat, _, by rw [List.length_replicate], Nat.zero_le _, heap_alloc_new w _, by rw [List.length_replicate]; exact Nat.le_refl _, ?_, ?_, ?_⟩⟩, hrm⟩ fun q hq => ?_
  · unfold maxLen; omega
  · simp [flatten_length hrm]
  · have e1 := flatten_length hrm
    simp only [List.length_replicate] at e1
    simp only [List.length_replicate]
    exact List.take_of_length_le (Nat.le_of_eq e1)
  · have hq : some w.heap.size = some q := hq
    injection hq with hq
    subst hq
    simp
theorem e_make {m : Int} (hx : ev e x = some (.int k m) := by exact rfl) (hy : ev e y = some (.int k' m) := by exact rfl) (ht : tfind Γ.tys t = some i := by exact rfl) (hd : i.td = .slice el := by exact rfl) (he : tfind Γ.tys el = some ie := by exact rfl) (hz : Nat.beq ie.zero.length ie.size = true := by exact rfl) (hp : Nat.blt 0 ie.size = true := by exact rfl) (h0 : 0 ≤ m := by omega) (hb : m.toNat * ie.bytes ≤ 140737488355328 ∧ m ≤ 140737488355328 := by first | omega | (constructor <;> simp only [] <;> omega)) :
    Eff Γ e As ⟨d, .makeSlice t x y, ty, pos, af, gd⟩ (fun u As' => ∃ g, u = .slice (some ⟨g, 0, none⟩) m.toNat m.toNat ∧ As' = .row (.slice (some ⟨g, 0, none⟩) m.toNat m.toNat) el ie.size (List.replicate m.toNat ie.zero) :: As) := eff_makeSlice hx hy ht hd he hz hp h0 hb.1 hb.2
/-- A loop that counts to n, with a state beside. -/
theorem a_for {σ : Type} {Q : Exit → Act → World → Prop} {cd : Code} (n : Nat) (env : Int → σ → Env) (at_ : Int → σ → List Atom) (ok : Int → σ → Prop) (s0 : σ) (hs : ok 0 s0)
    (round : ∀ (i : Int) (s : σ), 0 ≤ i → i ≤ n → ok i s → ∀ K : Act → World → Prop, (∀ s' : σ, i + 1 ≤ n → ok (i + 1) s' → TK Γ K (env (i + 1) s') (at_ (i + 1) s')) → TC Γ (Exit.then K Q) cd (env i s) (at_ i s))
    (he0 : Sub e (env 0 s0) := by repeat (first | exact Sub.nil | apply Sub.cons rfl)) (ha0 : Ent Γ As (at_ 0 s0) := by first | exact Ent.refl | exact Ent.pick PickC.h) : TC Γ Q (.loop cd) e As :=
  tc_loop (σ := Int × σ) (fun s => env s.1 s.2) (fun s => at_ s.1 s.2) (fun s => 0 ≤ s.1 ∧ s.1 ≤ n ∧ ok s.1 s.2) (fun s => (n - s.1).toNat) (0, s0) ⟨Int.le_refl _, by omega, hs⟩ he0 ha0 fun s hs K hK =>
    round s.1 s.2 hs.1 hs.2.1 hs.2.2 K fun s' h1 h2 => hK (s.1 + 1, s') ⟨by have := hs.1; simp only; omega, h1, h2⟩ (by have := hs.1; simp only; omega)
end
/-! ### Lists that grow by one; bundles that do -/
theorem take_snoc {α : Type} {enc : α → List Value} {l : List α} {i : Int} {x : α} (h0 : 0 ≤ i) (hx : l[i.toNat]? = some x) : (l.take i.toNat).map enc ++ [enc x] = (l.take (i + 1).toNat).map enc := by
  rw [show (i + 1).toNat = i.toNat + 1 by omega, List.take_add_one, hx]; simp
theorem take_len {α : Type} {l : List α} {i : Int} (h0 : 0 ≤ i) (h1 : i ≤ l.length) : (l.take i.toNat).length = i.toNat := by simp; omega
section
variable {w0 w : World} {F0 : Nat → Prop} {As Bs Rs : List Atom}
theorem HeapOK.many_nil (h : HeapOK w0 F0 As w) : HeapOK w0 F0 (many [] :: As) w := HeapOK.mk_many (Bs := []) h
theorem HeapOK.many_snoc {B : Atom} (h : HeapOK w0 F0 (B :: many Bs :: Rs) w) : HeapOK w0 F0 (many (Bs ++ [B]) :: Rs) w := by
  refine HeapOK.mk_many ?_
  have h1 : HeapOK w0 F0 (many Bs :: B :: Rs) w := h.perm (List.Perm.swap _ _ _)
  have h2 := h1.un_many
  rw [List.append_assoc]
  exact h2
/-- One out of a bundle. -/
theorem HeapOK.many_out {α : Type} {f : α → Atom} {l : List α} {j : Nat} {x : α} (hx : l[j]? = some x) (h : HeapOK w0 F0 (many (l.map f) :: Rs) w) : HeapOK w0 F0 (f x :: many ((l.eraseIdx j).map f) :: Rs) w := by
  have hj : j < l.length := (List.getElem?_eq_some_iff.1 hx).1
  have hxe : l[j] = x := (List.getElem?_eq_some_iff.1 hx).2
  have h1 := h.un_many
  have hp : l.Perm (x :: l.eraseIdx j) := by
    have e1 : l = l.take j ++ x :: l.drop (j + 1) := by rw [← hxe, ← List.drop_eq_getElem_cons hj, List.take_append_drop]
    have e2 : l.eraseIdx j = l.take j ++ l.drop (j + 1) := List.eraseIdx_eq_take_drop_succ l j
    rw [e2]
    conv => lhs; rw [e1]
    exact List.perm_middle
  have h2 : HeapOK w0 F0 (f x :: ((l.eraseIdx j).map f ++ Rs)) w := h1.perm (by
    have := (hp.map f).append_right Rs
    simpa using this)
  have h3 : HeapOK w0 F0 ((l.eraseIdx j).map f ++ (f x :: Rs)) w := h2.perm (List.perm_middle.symm)
  exact (HeapOK.mk_many h3).perm (List.Perm.swap _ _ _)
theorem HeapOK.many_in {α : Type} {f : α → Atom} {l : List α} {j : Nat} {x y : α} (hx : l[j]? = some x) (h : HeapOK w0 F0 (f y :: many ((l.eraseIdx j).map f) :: Rs) w) : HeapOK w0 F0 (many ((l.set j y).map f) :: Rs) w := by
  have hj : j < l.length := (List.getElem?_eq_some_iff.1 hx).1
  have h1 : HeapOK w0 F0 ((l.eraseIdx j).map f ++ (f y :: Rs)) w := (h.perm (List.Perm.swap _ _ _)).un_many
  refine HeapOK.mk_many (h1.perm ?_)
  have e1 : l.set j y = l.take j ++ y :: l.drop (j + 1) := List.set_eq_take_append_cons_drop.trans (by rw [if_pos hj])
  have e2 : l.eraseIdx j = l.take j ++ l.drop (j + 1) := List.eraseIdx_eq_take_drop_succ l j
  rw [e1, e2]
  simp only [List.map_append, List.map_cons, List.append_assoc, List.cons_append]
  refine List.Perm.append_left _ ?_
  exact List.perm_middle
end
section
variable {Γ : Ctx} {As Bs Rs : List Atom}
theorem Ent.many_nil : Ent Γ As (many [] :: As) := .mk fun w hw => hw.many_nil
theorem Ent.many_snoc {B : Atom} : Ent Γ (B :: many Bs :: Rs) (many (Bs ++ [B]) :: Rs) := .mk fun w hw => hw.many_snoc
theorem Ent.many_out {α : Type} {f : α → Atom} {l : List α} {j : Nat} {x : α} (hx : l[j]? = some x) : Ent Γ (many (l.map f) :: Rs) (f x :: many ((l.eraseIdx j).map f) :: Rs) := .mk fun w hw => hw.many_out hx
theorem Ent.many_in {α : Type} {f : α → Atom} {l : List α} {j : Nat} {x y : α} (hx : l[j]? = some x) : Ent Γ (f y :: many ((l.eraseIdx j).map f) :: Rs) (many ((l.set j y).map f) :: Rs) := .mk fun w hw => hw.many_in hx
theorem Ent.pickC [hp : PickC As Bs Rs] : Ent Γ As Bs := Ent.pick hp.h
end
end Go.Eng
