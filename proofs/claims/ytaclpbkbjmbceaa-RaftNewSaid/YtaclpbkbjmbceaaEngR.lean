/-
  THE ENGINE's SHORT FORMS: each step as one word; what is looked for is found by instances.
-/
import Derived.Test.YtaclpbkbjmbceaaEngO
set_option linter.unusedVariables false
set_option linter.unusedSimpArgs false
namespace Go.Eng
open Go.RowKit

/-! ### 1. Control -/
class St (g : Prop) (s : outParam Prop) : Prop where
  imp : s → g
class KC (Γ : Ctx) (K : Act → World → Prop) (Q : outParam (Exit → Act → World → Prop)) (y : outParam Code) : Prop where
  h : ∀ e As, TC Γ Q y e As → TK Γ K e As
section
variable {Γ : Ctx} {e e' : Env} {As As' Bs Ac : List Atom} {ops : Array Oper} {Q : Exit → Act → World → Prop} {K : Act → World → Prop} {rest : List Oper} {o : Oper} {id : Nat} {c x y : Code}
instance st_region {l : List Oper} : St (TC Γ Q (.region id l.toArray false) e As) (TL Γ l.toArray Q l e As) := ⟨tc_region⟩
instance st_block : St (TC Γ Q (.block id c) e As) (TC Γ (Exit.inBlock id Q) c e As) := ⟨tc_block⟩
instance st_exit : St (TC Γ Q (.exit id) e As) (TK Γ (Q (.exit id)) e As) := ⟨tc_exit⟩
instance st_ret : St (TC Γ Q .ret e As) (TK Γ (Q .ret) e As) := ⟨tc_ret⟩
instance st_skip : St (TC Γ Q .skip e As) (TK Γ (Q .normal) e As) := ⟨tc_skip⟩
instance st_nil : St (TL Γ ops Q [] e As) (TK Γ (Q .normal) e As) := ⟨tl_nil⟩
instance st_then_n : St (TK Γ (Exit.then K Q .normal) e As) (TK Γ K e As) := ⟨tk_then_n⟩
instance st_then_r : St (TK Γ (Exit.then K Q .ret) e As) (TK Γ (Q .ret) e As) := ⟨tk_then_r⟩
instance st_then_e : St (TK Γ (Exit.then K Q (.exit id)) e As) (TK Γ (Q (.exit id)) e As) := ⟨tk_then_e⟩
instance st_block_n : St (TK Γ (Exit.inBlock id Q .normal) e As) (TK Γ (Q .normal) e As) := ⟨tk_block_n⟩
instance st_block_r : St (TK Γ (Exit.inBlock id Q .ret) e As) (TK Γ (Q .ret) e As) := ⟨tk_block_r⟩
instance st_block_hit : St (TK Γ (Exit.inBlock id Q (.exit id)) e As) (TK Γ (Q .normal) e As) := ⟨tk_block_hit⟩
instance st_go [KC Γ K Q y] : St (TK Γ K e As) (TC Γ Q y e As) := ⟨KC.h e As⟩
theorem st_seq (h : ∀ K : Act → World → Prop, KC Γ K Q y → TC Γ (Exit.then K Q) x e As) : TC Γ Q (.seq x y) e As := tc_seq fun K hK => h K ⟨hK⟩
theorem st_miss {id' : Nat} (h : TK Γ (Q (.exit id')) e As) (hne : Nat.beq id' id = false := by exact rfl) : TK Γ (Exit.inBlock id Q (.exit id')) e As := tk_block_miss hne h
theorem st_t {c : Operand} (h : TC Γ Q x e As) (hc : ev e c = some (.bool true) := by exact rfl) : TC Γ Q (.cond c x y) e As := tc_cond_t hc h
theorem st_f {c : Operand} (h : TC Γ Q y e As) (hc : ev e c = some (.bool false) := by exact rfl) : TC Γ Q (.cond c x y) e As := tc_cond_f hc h
theorem a_cond {c : Operand} {b : Bool} (hx : b = true → TC Γ Q x e As) (hy : b = false → TC Γ Q y e As) (hc : ev e c = some (.bool b) := by exact rfl) : TC Γ Q (.cond c x y) e As := tc_cond hc hx hy

/-! ### 2. Steps -/
section
variable {d : Nat} {v : Value}
theorem a_val (k : TL Γ ops Q rest ((d, v) :: e) As) (hv : Val Γ e As o v) (hw : Wanted Γ.n ops e o := by first | exact wanted_none rfl | exact wanted_some rfl rfl rfl) (hdst : o.dst = some d := by exact rfl) (hd : Nat.blt d Γ.n = true := by exact rfl) : TL Γ ops Q (o :: rest) e As := tl_val hw hv hdst hd k
theorem a_eff {R : Value → List Atom → Prop} (k : ∀ v As', R v As' → TL Γ ops Q rest ((d, v) :: e) As') (hv : Eff Γ e As o R) (hw : Wanted Γ.n ops e o := by first | exact wanted_none rfl | exact wanted_some rfl rfl rfl) (hdst : o.dst = some d := by exact rfl) (hd : Nat.blt d Γ.n = true := by exact rfl) : TL Γ ops Q (o :: rest) e As := tl_eff hw hv hdst hd k
theorem a_effn {R : Value → List Atom → Prop} (k : ∀ v As', R v As' → TL Γ ops Q rest e As') (hv : Eff Γ e As o R) (hw : Wanted Γ.n ops e o := by first | exact wanted_none rfl | exact wanted_some rfl rfl rfl) (hdst : o.dst = none := by exact rfl) : TL Γ ops Q (o :: rest) e As := tl_eff_n hw hv hdst k
theorem a_skip (k : TL Γ ops Q rest ((d, undef) :: e) As) (hw : Unwanted Γ.n ops e o := by first | exact unwanted_t rfl rfl rfl | exact unwanted_f rfl rfl rfl | exact unwanted_u rfl rfl rfl) (hdst : o.dst = some d := by exact rfl) (hd : Nat.blt d Γ.n = true := by exact rfl) : TL Γ ops Q (o :: rest) e As := tl_skip hw hdst hd k
theorem a_skipn (k : TL Γ ops Q rest e As) (hw : Unwanted Γ.n ops e o := by first | exact unwanted_t rfl rfl rfl | exact unwanted_f rfl rfl rfl | exact unwanted_u rfl rfl rfl) (hdst : o.dst = none := by exact rfl) : TL Γ ops Q (o :: rest) e As := tl_skip_n hw hdst k
theorem a_case {j t : Nat} {b want : Bool} (h1 : b = true → TL Γ ops Q (o :: rest) ((t, .bool true) :: e) As) (h2 : b = false → TL Γ ops Q (o :: rest) ((t, .bool false) :: e) As) (hg : o.guard = some (j, want) := by exact rfl) (hd : (ops[j]?).bind (·.dst) = some t := by exact rfl) (h : efind e t = some (.bool b) := by exact rfl) : TL Γ ops Q (o :: rest) e As := tl_case_g hg hd h h1 h2
section
variable {A : Array Nat} {ex r : List Nat} {i : Nat} {Qm : Act → World → Prop}
theorem m_val (ho : ops[i]? = some o) (k : TM Γ ops A ex Ac Qm r ((d, v) :: e) As) (hv : Val Γ e Ac o v) (hp : pinAt ops ex i = false := by exact rfl) (hw : Wanted Γ.n ops e o := by first | exact wanted_none rfl | exact wanted_some rfl rfl rfl) (hdst : o.dst = some d := by exact rfl) (hd : Nat.blt d Γ.n = true := by exact rfl) : TM Γ ops A ex Ac Qm (i :: r) e As := tm_val ho hp hw hv hdst hd k
theorem m_eff {R : Value → List Atom → Prop} (ho : ops[i]? = some o) (k : ∀ v As', R v As' → (late ops A ex i = true → Ent Γ As' Ac) ∧ TM Γ ops A ex Ac Qm r ((d, v) :: e) As') (hv : Eff Γ e As o R) (hp : pinAt ops ex i = true := by exact rfl) (hw : Wanted Γ.n ops e o := by first | exact wanted_none rfl | exact wanted_some rfl rfl rfl) (hdst : o.dst = some d := by exact rfl) (hd : Nat.blt d Γ.n = true := by exact rfl) : TM Γ ops A ex Ac Qm (i :: r) e As := tm_eff ho hp hw hv hdst hd k
theorem m_effn {R : Value → List Atom → Prop} (ho : ops[i]? = some o) (k : ∀ v As', R v As' → (late ops A ex i = true → Ent Γ As' Ac) ∧ TM Γ ops A ex Ac Qm r e As') (hv : Eff Γ e As o R) (hp : pinAt ops ex i = true := by exact rfl) (hw : Wanted Γ.n ops e o := by first | exact wanted_none rfl | exact wanted_some rfl rfl rfl) (hdst : o.dst = none := by exact rfl) : TM Γ ops A ex Ac Qm (i :: r) e As := tm_eff_n ho hp hw hv hdst k
theorem m_skip (ho : ops[i]? = some o) (k : TM Γ ops A ex Ac Qm r ((d, undef) :: e) As) (hw : Unwanted Γ.n ops e o := by first | exact unwanted_t rfl rfl rfl | exact unwanted_f rfl rfl rfl | exact unwanted_u rfl rfl rfl) (hdst : o.dst = some d := by exact rfl) (hd : Nat.blt d Γ.n = true := by exact rfl) : TM Γ ops A ex Ac Qm (i :: r) e As := by
  cases hp : pinAt ops ex i with
  | true => exact tm_skip_p ho hp hw hdst hd k
  | false => exact tm_skip ho hp hw hdst hd k
theorem m_skipn (ho : ops[i]? = some o) (k : TM Γ ops A ex Ac Qm r e As) (hp : pinAt ops ex i = true := by exact rfl) (hw : Unwanted Γ.n ops e o := by first | exact unwanted_t rfl rfl rfl | exact unwanted_f rfl rfl rfl | exact unwanted_u rfl rfl rfl) (hdst : o.dst = none := by exact rfl) : TM Γ ops A ex Ac Qm (i :: r) e As := tm_skip_pn ho hp hw hdst k
theorem m_case {j t : Nat} {b want : Bool} (ho : ops[i]? = some o) (h1 : b = true → TM Γ ops A ex Ac Qm (i :: r) ((t, .bool true) :: e) As) (h2 : b = false → TM Γ ops A ex Ac Qm (i :: r) ((t, .bool false) :: e) As) (hg : o.guard = some (j, want) := by exact rfl) (hd : (ops[j]?).bind (·.dst) = some t := by exact rfl) (h : efind e t = some (.bool b) := by exact rfl) : TM Γ ops A ex Ac Qm (i :: r) e As := tm_case_g ho hg hd h h1 h2
theorem m_ent {P : Prop} (hE : late ops A ex i = true → Ent Γ As Ac) (h : P) : (late ops A ex i = true → Ent Γ As Ac) ∧ P := ⟨hE, h⟩
instance st_mnil : St (TM Γ ops A ex Ac Qm [] e As) (TK Γ Qm e As) := ⟨tm_nil⟩
end
end
end

/-! ### 3. What can be read -/
class Pos (s : Nat) : Prop where
  h : 0 < s
instance pos_succ {n : Nat} : Pos (n + 1) := ⟨Nat.succ_pos n⟩
class LenC {α : Type} (l : List α) : Prop where
  h : l.length ≤ 140737488355328
class RowC (As : List Atom) (A : Option Addr) (n c : outParam Nat) (el : outParam TypeId) (s : outParam Nat) (xs : outParam (List (List Value))) : Prop where
  h : Has As (.row (.slice A n c) el s xs)
class BlkC (As : List Atom) (b : Nat) (cs : outParam (List Value)) (u : outParam TypeId) : Prop where
  h : Has As (.blk b cs u)
class RemC (As : List Atom) (A : Atom) (Rs : outParam (List Atom)) : Prop where
  h : Rem As A Rs
class PickC (As : List Atom) (Bs : List Atom) (Rs : outParam (List Atom)) : Prop where
  h : Pick As Bs Rs
section
variable {r r' As As1 Bs Rs : List Atom} {A : Option Addr} {n c b : Nat} {el u : TypeId} {s : Nat} {xs : List (List Value)} {B : Atom} {cs : List Value}
instance row_here : RowC (.row (.slice A n c) el s xs :: r) A n c el s xs := ⟨.here⟩
instance row_there [RowC r A n c el s xs] : RowC (B :: r) A n c el s xs := ⟨.there RowC.h⟩
instance blk_here : BlkC (.blk b cs u :: r) b cs u := ⟨.here⟩
instance blk_there [BlkC r b cs u] : BlkC (B :: r) b cs u := ⟨.there BlkC.h⟩
instance rem_here : RemC (B :: r) B r := ⟨.here⟩
instance rem_there {A' : Atom} [RemC r A' r'] : RemC (B :: r) A' (B :: r') := ⟨.there RemC.h⟩
instance pick_nil : PickC As [] As := ⟨.nil⟩
instance pick_take [RemC As B As1] [PickC As1 Bs Rs] : PickC As (B :: Bs) Rs := ⟨.take RemC.h PickC.h⟩
end
section
variable {α : Type} {w0 w : World} {F0 : Nat → Prop} {As Bs Rs : List Atom} {enc : α → List Value} {s : Nat} {l : List α} {A : Option Addr} {c n : Nat} {el : TypeId}
instance sl_keep [hw : HeapOK w0 F0 As w] [hp : PickC As Bs Rs] [hl : Sl w0 F0 enc s l A c] : Sl w (fpAll Bs) enc s l A c := hl.keepP hw hp.h
instance sl_row [hw : HeapOK w0 F0 As w] [hp : PickC As Bs Rs] [hr : RowC Rs A n c el s (l.map enc)] [hs : Pos s] [hlen : LenC l] : Sl w (fpAll Bs) enc s l A c := Sl.row hw hs.h hp.h hr.h hlen.h
class Rdl (Γ : Ctx) (As : List Atom) (A : Option Addr) (s : outParam Nat) (xs : outParam (List (List Value))) : Prop where
  h : ∀ w, HeapOK Γ.w0 Γ.F0 As w → Rd w A s xs
instance rdl_sl {Γ : Ctx} [hl : Sl Γ.w0 Γ.F0 enc s l A c] : Rdl Γ As A s (l.map enc) := ⟨fun w hw => hw.rd hl.rd⟩
instance rdl_row {Γ : Ctx} {xs : List (List Value)} [hr : RowC As A n c el s xs] : Rdl Γ As A s xs := ⟨fun w hw => row_rd (hw.ok _ hr.h.mem)⟩
end

/-! ### 4. Values -/
section
variable {Γ : Ctx} {e : Env} {As : List Atom} {d : Option Tmp} {ty : TypeId} {pos : String} {af : Array Edge} {gd : Option (Nat × Bool)} {t el : TypeId} {i ie : TyI} {x y z : Operand} {v : Value} {k k' : IntKind} {m n : Int} {A : Option Addr} {ln c : Nat} {ats : Array TypeId} {xt yt : TypeId}
theorem v_move (h : ev e x = some v := by exact rfl) : Val Γ e As ⟨d, .move x, ty, pos, af, gd⟩ v := val_move h
theorem v_assign (h : ev e x = some v := by exact rfl) : Val Γ e As ⟨d, .assign x, ty, pos, af, gd⟩ v := val_assign h
theorem v_pickt {b : Operand} (hc : ev e b = some (.bool true) := by exact rfl) (h : ev e x = some v := by exact rfl) : Val Γ e As ⟨d, .pick b x y, ty, pos, af, gd⟩ v := val_pick_t hc h
theorem v_pickf {b : Operand} (hc : ev e b = some (.bool false) := by exact rfl) (h : ev e y = some v := by exact rfl) : Val Γ e As ⟨d, .pick b x y, ty, pos, af, gd⟩ v := val_pick_f hc h
theorem v_extract {q : Nat} {vs : List Value} (hx : ev e x = some (.tuple vs.toArray) := by exact rfl) (h : vs[q]? = some v := by exact rfl) : Val Γ e As ⟨d, .extract x q, ty, pos, af, gd⟩ v := val_extract hx h
theorem v_nilCheck {ad : Addr} (h : ev e x = some (.pointer (some ad)) := by exact rfl) : Val Γ e As ⟨d, .nilCheck x, ty, pos, af, gd⟩ (.pointer (some ad)) := val_nilCheck h
theorem v_nilCheckF {f : FuncId} {xs ys : Array Value} (h : ev e x = some (.func (.func f) xs ys) := by exact rfl) : Val Γ e As ⟨d, .nilCheck x, ty, pos, af, gd⟩ (.func (.func f) xs ys) := val_nilCheck_func h
theorem v_makeFunc {f : FuncId} {xs ys : Array Operand} {us vs : List Value} (hx : evL e xs.toList = some us := by exact rfl) (hy : evL e ys.toList = some vs := by exact rfl) : Val Γ e As ⟨d, .makeFunc (.func f) xs ys, ty, pos, af, gd⟩ (.func (.func f) us.toArray vs.toArray) := val_makeFunc hx hy
theorem v_field {q g o o' f1 f2 : Nat} (hx : ev e x = some (.pointer (some ⟨g, o, none⟩)) := by exact rfl) (ht : tfind Γ.tys t = some i := by exact rfl) (hf : i.flds[q]? = some (f1, f2) := by exact rfl) (ho : o + f1 = o' := by simp only [Nat.reduceAdd, Nat.zero_add, Nat.add_zero]; exact rfl) : Val Γ e As ⟨d, .fieldAddr t x q, ty, pos, af, gd⟩ (.pointer (some ⟨g, o', none⟩)) := val_fieldAddr_blk hx ht hf ho
theorem v_fieldE {q s o o' f1 f2 : Nat} {j : Int} (hx : ev e x = some (.pointer (some ((eptr A s j).add o))) := by exact rfl) (ht : tfind Γ.tys t = some i := by exact rfl) (hf : i.flds[q]? = some (f1, f2) := by exact rfl) (ho : o + f1 = o' := by simp only [Nat.reduceAdd, Nat.zero_add, Nat.add_zero]; exact rfl) : Val Γ e As ⟨d, .fieldAddr t x q, ty, pos, af, gd⟩ (.pointer (some ((eptr A s j).add o'))) := val_fieldAddr_elt hx ht hf ho
theorem v_field0 {q : Nat} {ad : Addr} {f1 f2 : Nat} (hx : ev e x = some (.pointer (some ad)) := by exact rfl) (ht : tfind Γ.tys t = some i := by exact rfl) (hf : i.flds[q]? = some (f1, f2) := by exact rfl) : Val Γ e As ⟨d, .fieldAddr t x q, ty, pos, af, gd⟩ (.pointer (some (ad.add f1))) := val_fieldAddr hx ht hf
theorem v_load {g q : Nat} {cs : List Value} {u : TypeId} (hx : ev e x = some (.pointer (some ⟨g, q, none⟩)) := by exact rfl) (hA : Has As (.blk g cs u) := by repeat (first | exact Has.here | refine Has.there ?_)) (ht : tfind Γ.tys t = some i := by exact rfl) (hs : i.td.scalar = true := by exact rfl) (hv : cs[q]? = some v := by exact rfl) : Val Γ e As ⟨d, .load t x, ty, pos, af, gd⟩ v := val_load hx hA ht hs hv
theorem v_loadA {g q : Nat} {cs vs : List Value} {u : TypeId} (hx : ev e x = some (.pointer (some ⟨g, q, none⟩)) := by exact rfl) (hA : Has As (.blk g cs u) := by repeat (first | exact Has.here | refine Has.there ?_)) (ht : tfind Γ.tys t = some i := by exact rfl) (hs : i.td = .struct := by exact rfl) (hz : i.size = ln := by exact rfl) (hv : (cs.drop q).take ln = vs := by first | (simp only [List.drop_succ_cons, List.drop_zero, List.take_succ_cons, List.take_zero, List.take_nil, List.drop_nil]; exact rfl) | exact rfl) (hl : vs.length = i.size := by exact rfl) : Val Γ e As ⟨d, .load t x, ty, pos, af, gd⟩ (.agg vs.toArray) := val_load_agg hx hA ht hs (by rw [hz]; exact hv) hl
section
variable {α : Type} {enc : α → List Value} {s : Nat} {l : List α} {a : α} {j : Int}
theorem v_index (hx : ev e x = some (.slice A ln c) := by exact rfl) (hy : ev e y = some (.int k j) := by exact rfl) (ht : tfind Γ.tys t = some i := by exact rfl) (hd : i.td = .slice el := by exact rfl) (he : tfind Γ.tys el = some ie := by exact rfl) {xs : List (List Value)} (hr : Rdl Γ As A s xs := by infer_instance) (h0 : 0 ≤ j := by omega) (h1 : j < ln := by omega) (hn : xs.length = ln := by first | exact rfl | exact List.length_map _ | simp) : Val Γ e As ⟨d, .indexAddr t x y, ty, pos, af, gd⟩ (.pointer (some (eptr A ie.size j))) :=
  val_indexAddr hx hy ht hd he h0 h1 fun w hw => some_of_rd (hr.h w hw) (by omega)
theorem v_loadE {o : Nat} (hc : l[j.toNat]? = some a) (hx : ev e x = some (.pointer (some ((eptr A s j).add o))) := by exact rfl) (hr : Rdl Γ As A s (l.map enc) := by infer_instance) (ht : tfind Γ.tys t = some i := by exact rfl) (hs : i.td.scalar = true := by exact rfl) (hv : (enc a)[o]? = some v := by exact rfl) : Val Γ e As ⟨d, .load t x, ty, pos, af, gd⟩ v := val_load_elt hx hr.h (getmap hc) ht hs hv
theorem v_loadE0 (hc : l[j.toNat]? = some a) (hx : ev e x = some (.pointer (some (eptr A s j))) := by exact rfl) (hr : Rdl Γ As A s (l.map enc) := by infer_instance) (ht : tfind Γ.tys t = some i := by exact rfl) (hs : i.td.scalar = true := by exact rfl) (hv : (enc a)[0]? = some v := by exact rfl) : Val Γ e As ⟨d, .load t x, ty, pos, af, gd⟩ v := val_load_elt0 hx hr.h (getmap hc) ht hs hv
theorem v_loadEA {o : Nat} {vs : List Value} (hc : l[j.toNat]? = some a) (hx : ev e x = some (.pointer (some ((eptr A s j).add o))) := by exact rfl) (hr : Rdl Γ As A s (l.map enc) := by infer_instance) (ht : tfind Γ.tys t = some i := by exact rfl) (hs : i.td = .struct := by exact rfl) (hv : ((enc a).drop o).take i.size = vs := by exact rfl) (hl : vs.length = i.size := by exact rfl) : Val Γ e As ⟨d, .load t x, ty, pos, af, gd⟩ (.agg vs.toArray) := val_load_elt_agg hx hr.h (getmap hc) ht hs hv hl
theorem v_loadEA0 (hc : l[j.toNat]? = some a) (hx : ev e x = some (.pointer (some (eptr A s j))) := by exact rfl) (hr : Rdl Γ As A s (l.map enc) := by infer_instance) (ht : tfind Γ.tys t = some i := by exact rfl) (hs : i.td = .struct := by exact rfl) (hl : (enc a).length = i.size := by exact rfl) : Val Γ e As ⟨d, .load t x, ty, pos, af, gd⟩ (.agg (enc a).toArray) := val_load_elt_agg0 hx hr.h (getmap hc) ht hs hl
end
theorem v_add (hx : ev e x = some (.int .i64 m) := by exact rfl) (hy : ev e y = some (.int .i64 n) := by exact rfl) (h : -9223372036854775808 ≤ m + n ∧ m + n ≤ 9223372036854775807 := by omega) : Val Γ e As ⟨d, .binOp .add xt x y yt, ty, pos, af, gd⟩ (.int .i64 (m + n)) := val_add hx hy h
theorem v_sub (hx : ev e x = some (.int .i64 m) := by exact rfl) (hy : ev e y = some (.int .i64 n) := by exact rfl) (h : -9223372036854775808 ≤ m - n ∧ m - n ≤ 9223372036854775807 := by omega) : Val Γ e As ⟨d, .binOp .sub xt x y yt, ty, pos, af, gd⟩ (.int .i64 (m - n)) := val_sub hx hy h
theorem v_addW (hx : ev e x = some (.int k m) := by exact rfl) (hy : ev e y = some (.int k n) := by exact rfl) : Val Γ e As ⟨d, .binOp .add xt x y yt, ty, pos, af, gd⟩ (.int k (k.wrap (m + n))) := val_addW hx hy
theorem v_subW (hx : ev e x = some (.int k m) := by exact rfl) (hy : ev e y = some (.int k n) := by exact rfl) : Val Γ e As ⟨d, .binOp .sub xt x y yt, ty, pos, af, gd⟩ (.int k (k.wrap (m - n))) := val_subW hx hy
theorem v_mulW (hx : ev e x = some (.int k m) := by exact rfl) (hy : ev e y = some (.int k n) := by exact rfl) : Val Γ e As ⟨d, .binOp .mul xt x y yt, ty, pos, af, gd⟩ (.int k (k.wrap (m * n))) := val_mulW hx hy
theorem v_mul (hx : ev e x = some (.int .i64 m) := by exact rfl) (hy : ev e y = some (.int .i64 n) := by exact rfl) (h : -9223372036854775808 ≤ m * n ∧ m * n ≤ 9223372036854775807 := by omega) : Val Γ e As ⟨d, .binOp .mul xt x y yt, ty, pos, af, gd⟩ (.int .i64 (m * n)) := by
  have h1 := val_mulW (Γ := Γ) (As := As) (d := d) (ty := ty) (pos := pos) (af := af) (gd := gd) (xt := xt) (yt := yt) hx hy
  have h2 : IntKind.i64.wrap (m * n) = m * n := by rw [IntKind.wrap_i64]; omega
  rwa [h2] at h1
theorem v_lss (hx : ev e x = some (.int k m) := by exact rfl) (hy : ev e y = some (.int k n) := by exact rfl) : Val Γ e As ⟨d, .binOp .lss xt x y yt, ty, pos, af, gd⟩ (.bool (decide (m < n))) := val_lss hx hy
theorem v_leq (hx : ev e x = some (.int k m) := by exact rfl) (hy : ev e y = some (.int k n) := by exact rfl) : Val Γ e As ⟨d, .binOp .leq xt x y yt, ty, pos, af, gd⟩ (.bool (decide (m ≤ n))) := val_leq hx hy
theorem v_gtr (hx : ev e x = some (.int k m) := by exact rfl) (hy : ev e y = some (.int k n) := by exact rfl) : Val Γ e As ⟨d, .binOp .gtr xt x y yt, ty, pos, af, gd⟩ (.bool (decide (n < m))) := val_gtr hx hy
theorem v_geq (hx : ev e x = some (.int k m) := by exact rfl) (hy : ev e y = some (.int k n) := by exact rfl) : Val Γ e As ⟨d, .binOp .geq xt x y yt, ty, pos, af, gd⟩ (.bool (decide (n ≤ m))) := val_geq hx hy
theorem v_eql (hx : ev e x = some (.int k m) := by exact rfl) (hy : ev e y = some (.int k n) := by exact rfl) : Val Γ e As ⟨d, .binOp .eql xt x y yt, ty, pos, af, gd⟩ (.bool (decide (m = n))) := val_eql hx hy
theorem v_neq (hx : ev e x = some (.int k m) := by exact rfl) (hy : ev e y = some (.int k n) := by exact rfl) : Val Γ e As ⟨d, .binOp .neq xt x y yt, ty, pos, af, gd⟩ (.bool (decide (m ≠ n))) := val_neq hx hy
theorem v_seql {p q : ByteArray} (hx : ev e x = some (.string p) := by exact rfl) (hy : ev e y = some (.string q) := by exact rfl) : Val Γ e As ⟨d, .binOp .eql xt x y yt, ty, pos, af, gd⟩ (.bool (p.toList == q.toList)) := val_str_eql hx hy
theorem v_sneq {p q : ByteArray} (hx : ev e x = some (.string p) := by exact rfl) (hy : ev e y = some (.string q) := by exact rfl) : Val Γ e As ⟨d, .binOp .neq xt x y yt, ty, pos, af, gd⟩ (.bool (!(p.toList == q.toList))) := val_str_neq hx hy
theorem v_beql {p q : Bool} {ix : TyI} (hx : ev e x = some (.bool p) := by exact rfl) (hy : ev e y = some (.bool q) := by exact rfl) (ht : tfind Γ.tys xt = some ix := by exact rfl) (hb : ix.td = .bool := by exact rfl) : Val Γ e As ⟨d, .binOp .eql xt x y yt, ty, pos, af, gd⟩ (.bool (p == q)) := val_bool_eql hx hy ht hb
theorem v_bneq {p q : Bool} {ix : TyI} (hx : ev e x = some (.bool p) := by exact rfl) (hy : ev e y = some (.bool q) := by exact rfl) (ht : tfind Γ.tys xt = some ix := by exact rfl) (hb : ix.td = .bool := by exact rfl) : Val Γ e As ⟨d, .binOp .neq xt x y yt, ty, pos, af, gd⟩ (.bool (!(p == q))) := val_bool_neq hx hy ht hb
theorem v_not {b : Bool} (hx : ev e x = some (.bool b) := by exact rfl) : Val Γ e As ⟨d, .unOp .not xt x, ty, pos, af, gd⟩ (.bool (!b)) := val_not hx
theorem v_len (hat : ats[0]? = some t := by exact rfl) (ht : tfind Γ.tys t = some i := by exact rfl) (hd : i.td = .slice el := by exact rfl) (hx : ev e x = some (.slice A ln c) := by exact rfl) : Val Γ e As ⟨d, .call { callee := .builtin .len, args := #[x], argTypes := ats }, ty, pos, af, gd⟩ (.int .i64 ln) := val_len_slice hat ht hd hx
theorem v_lenS {s : ByteArray} (hat : ats[0]? = some t := by exact rfl) (ht : tfind Γ.tys t = some i := by exact rfl) (hd : i.td = .string := by exact rfl) (hx : ev e x = some (.string s) := by exact rfl) : Val Γ e As ⟨d, .call { callee := .builtin .len, args := #[x], argTypes := ats }, ty, pos, af, gd⟩ (.int .i64 s.size) := val_len_string hat ht hd hx
theorem v_cap (hat : ats[0]? = some t := by exact rfl) (ht : tfind Γ.tys t = some i := by exact rfl) (hd : i.td = .slice el := by exact rfl) (hx : ev e x = some (.slice A ln c) := by exact rfl) : Val Γ e As ⟨d, .call { callee := .builtin .cap, args := #[x], argTypes := ats }, ty, pos, af, gd⟩ (.int .i64 c) := val_cap hat ht hd hx
theorem v_min (hx : ev e x = some (.int k m) := by exact rfl) (hy : ev e y = some (.int k n) := by exact rfl) : Val Γ e As ⟨d, .call { callee := .builtin .min, args := #[x, y], argTypes := ats }, ty, pos, af, gd⟩ (.int k (min m n)) := val_min hx hy
theorem v_max (hx : ev e x = some (.int k m) := by exact rfl) (hy : ev e y = some (.int k n) := by exact rfl) : Val Γ e As ⟨d, .call { callee := .builtin .max, args := #[x, y], argTypes := ats }, ty, pos, af, gd⟩ (.int k (max m n)) := val_max hx hy
theorem v_build {ps : Array (Nat × Operand)} {pvs : List (Nat × Value)} {vs : List Value} (hp : evP e ps.toList = some pvs := by exact rfl) (ht : tfind Γ.tys t = some i := by exact rfl) (hs : i.td = .struct := by exact rfl) (hf : fillL i.flds i.zero pvs = some vs := by exact rfl) : Val Γ e As ⟨d, .build t ps, ty, pos, af, gd⟩ (.agg vs.toArray) := val_build hp ht hs hf
theorem v_convert {src dst : TypeId} {is id : TyI} {kd : IntKind} (hx : ev e x = some (.int k n) := by exact rfl) (hs : tfind Γ.tys src = some is := by exact rfl) (hd : tfind Γ.tys dst = some id := by exact rfl) (hk : id.td = .int kd := by exact rfl) : Val Γ e As ⟨d, .convert src dst x, ty, pos, af, gd⟩ (.int kd (kd.wrap n)) := val_convert hx hs hd hk
theorem v_rem (hx : ev e x = some (.int k m) := by exact rfl) (hy : ev e y = some (.int k n) := by exact rfl) (h0 : n ≠ 0 := by omega) : Val Γ e As ⟨d, .binOp .rem xt x y yt, ty, pos, af, gd⟩ (.int k (m.tmod n)) := val_rem hx hy h0
theorem v_quo (hx : ev e x = some (.int k m) := by exact rfl) (hy : ev e y = some (.int k n) := by exact rfl) (h0 : n ≠ 0 := by omega) : Val Γ e As ⟨d, .binOp .quo xt x y yt, ty, pos, af, gd⟩ (.int k (k.wrap (m.tdiv n))) := val_quo hx hy h0
theorem v_shr (hx : ev e x = some (.int k m) := by exact rfl) (hy : ev e y = some (.int k' n) := by exact rfl) (h0 : 0 ≤ n := by omega) : Val Γ e As ⟨d, .binOp .shr xt x y yt, ty, pos, af, gd⟩ (.int k (m.fdiv (2 ^ min n.toNat k.bits))) := val_shr hx hy h0
theorem v_shl (hx : ev e x = some (.int k m) := by exact rfl) (hy : ev e y = some (.int k' n) := by exact rfl) (h0 : 0 ≤ n := by omega) : Val Γ e As ⟨d, .binOp .shl xt x y yt, ty, pos, af, gd⟩ (.int k (k.wrap (m * 2 ^ min n.toNat k.bits))) := val_shl hx hy h0
theorem v_sliceLo (hx : ev e x = some (.slice A ln c) := by exact rfl) (ht : tfind Γ.tys t = some i := by exact rfl) (hd : i.td = .slice el := by exact rfl) (he : tfind Γ.tys el = some ie := by exact rfl) (hy : ev e y = some (.int k m) := by exact rfl) (h0 : 0 ≤ m := by omega) (h1 : m ≤ ln := by omega) : Val Γ e As ⟨d, .slice t x (some y) none none, ty, pos, af, gd⟩ (.slice (cutA A ie.size c m.toNat) (ln - m.toNat) (c - m.toNat)) := val_slice_lo hx ht hd he hy h0 h1
theorem v_sliceHi (hx : ev e x = some (.slice A ln c) := by exact rfl) (ht : tfind Γ.tys t = some i := by exact rfl) (hd : i.td = .slice el := by exact rfl) (he : tfind Γ.tys el = some ie := by exact rfl) (hy : ev e y = some (.int k m) := by exact rfl) (h0 : 0 ≤ m := by omega) (h1 : m ≤ c := by omega) : Val Γ e As ⟨d, .slice t x none (some y) none, ty, pos, af, gd⟩ (.slice (cutA A ie.size c 0) m.toNat c) := val_slice_hi hx ht hd he hy h0 h1
theorem v_sliceLH (hx : ev e x = some (.slice A ln c) := by exact rfl) (ht : tfind Γ.tys t = some i := by exact rfl) (hd : i.td = .slice el := by exact rfl) (he : tfind Γ.tys el = some ie := by exact rfl) (hy : ev e y = some (.int k m) := by exact rfl) (hz : ev e z = some (.int k' n) := by exact rfl) (h0 : 0 ≤ m := by omega) (h1 : m ≤ n := by omega) (h2 : n ≤ c := by omega) : Val Γ e As ⟨d, .slice t x (some y) (some z) none, ty, pos, af, gd⟩ (.slice (cutA A ie.size c m.toNat) (n.toNat - m.toNat) (c - m.toNat)) := val_slice_lh hx ht hd he hy hz h0 h1 h2
end

/-! ### 5. Effects -/
class OkC (P : Program) (f : FuncId) : Prop where
  h : okCall P f = true
section
variable {Γ : Ctx} {e : Env} {As As' Bs Rs Ac : List Atom} {d : Nat} {ty : TypeId} {pos : String} {af : Array Edge} {gd : Option (Nat × Bool)} {t el u : TypeId} {i ie : TyI} {x y : Operand} {v : Value} {ops : Array Oper} {Q : Exit → Act → World → Prop} {rest : List Oper} {o : Oper} {od : Option Tmp}
theorem e_box {cs : List Value} (hx : ev e x = some v := by exact rfl) (hc : v.cells.toList = cs := by simp only [Value.cells, List.toList_toArray]; exact rfl) : Eff Γ e As ⟨od, .box t x, ty, pos, af, gd⟩ (RNew As cs t) := eff_box hx hc
theorem e_alloc (ht : tfind Γ.tys t = some i := by exact rfl) {zs : List Value} (hz : i.zero = zs := by exact rfl) : Eff Γ e As ⟨od, .alloc t, ty, pos, af, gd⟩ (RNew As zs t) := hz ▸ eff_alloc ht
theorem e_store {g q : Nat} {cs cs' : List Value} (hx : ev e x = some (.pointer (some ⟨g, q, none⟩)) := by exact rfl) (hy : ev e y = some v := by exact rfl) (ht : tfind Γ.tys t = some i := by exact rfl) (h1 : v.oneCell' = true := by exact rfl) (hs : i.size = 1 := by exact rfl) (hA : Has As (.blk g cs u) := by repeat (first | exact Has.here | refine Has.there ?_)) (hk : Nat.blt q cs.length = true := by exact rfl)
    (hc' : cs.set q v = cs' := by simp only [List.set_cons_zero, List.set_cons_succ, List.set_nil]; exact rfl) (hr : Rep As (.blk g cs u) (.blk g cs' u) As' := by repeat (first | exact Rep.here | apply Rep.there)) : Eff Γ e As ⟨od, .store t x y, ty, pos, af, gd⟩ (RSet As') := eff_store hx hy ht h1 hs hA hk hc' hr
theorem e_storeA {g q : Nat} {cs cs' vs : List Value} (hx : ev e x = some (.pointer (some ⟨g, q, none⟩)) := by exact rfl) (hy : ev e y = some (.agg vs.toArray) := by exact rfl) (ht : tfind Γ.tys t = some i := by exact rfl) (hs : i.size = vs.length := by exact rfl) (h1 : allOne vs = true := by exact rfl) (hA : Has As (.blk g cs u) := by repeat (first | exact Has.here | refine Has.there ?_)) (hk : Nat.ble (q + vs.length) cs.length = true := by exact rfl)
    (hc' : setL cs q vs = cs' := by simp only [setL, Nat.reduceAdd, List.set_cons_zero, List.set_cons_succ, List.set_nil]; exact rfl) (hr : Rep As (.blk g cs u) (.blk g cs' u) As' := by repeat (first | exact Rep.here | apply Rep.there)) : Eff Γ e As ⟨od, .store t x y, ty, pos, af, gd⟩ (RSet As') := eff_store_agg hx hy ht hs h1 hA hk hc' hr
theorem setL_whole : ∀ (vs cs : List Value) (pre : List Value), cs.length = vs.length → setL (pre ++ cs) pre.length vs = pre ++ vs
  | [], cs, pre, h => by simp [setL, List.eq_nil_of_length_eq_zero h]
  | v :: vs, c :: cs, pre, h => by
    have e1 : (pre ++ c :: cs).set pre.length v = (pre ++ [v]) ++ cs := by simp
    have e2 := setL_whole vs cs (pre ++ [v]) (by simpa using h)
    rw [setL, e1, show pre.length + 1 = (pre ++ [v]).length by simp, e2]
    simp
  | v :: vs, [], pre, h => by simp at h
/-- .. of the whole block. -/
theorem e_storeW {g : Nat} {cs vs : List Value} (hx : ev e x = some (.pointer (some ⟨g, 0, none⟩)) := by exact rfl) (hy : ev e y = some (.agg vs.toArray) := by exact rfl) (ht : tfind Γ.tys t = some i := by exact rfl) (hs : i.size = vs.length := by exact rfl) (h1 : allOne vs = true := by exact rfl) (hA : Has As (.blk g cs u) := by repeat (first | exact Has.here | refine Has.there ?_)) (hk : Nat.beq cs.length vs.length = true := by exact rfl)
    (hr : Rep As (.blk g cs u) (.blk g vs u) As' := by repeat (first | exact Rep.here | apply Rep.there)) : Eff Γ e As ⟨od, .store t x y, ty, pos, af, gd⟩ (RSet As') := by
  have hk := Nat.eq_of_beq_eq_true hk
  exact eff_store_agg hx hy ht hs h1 hA (by simp [hk]) (by simpa using setL_whole vs cs [] hk) hr
/-- A store into an element of a row. -/
theorem e_storeE {α : Type} {enc : α → List Value} {l : List α} {a : α} {A : Option Addr} {n c q : Nat} {j : Int} {vs : List Value} (hj : l[j.toNat]? = some a) (hx : ev e x = some (.pointer (some ((eptr A ie.size j).add q))) := by exact rfl) (hy : ev e y = some v := by exact rfl) (hv : v.cells.toList = vs := by simp only [Value.cells, List.toList_toArray]; exact rfl) (ht : tfind Γ.tys t = some i := by exact rfl) (hs : Nat.beq i.size vs.length = true := by exact rfl) (h1 : allOne vs = true := by exact rfl)
    (hr : Rem As (.row (.slice A n c) el ie.size (l.map enc)) Rs := by repeat (first | exact Rem.here | apply Rem.there)) (ho : Nat.ble (q + vs.length) ie.size = true := by exact rfl) : Eff Γ e As ⟨od, .store t x y, ty, pos, af, gd⟩ (RSet (.row (.slice A n c) el ie.size ((l.map enc).set j.toNat (ovw (enc a) q vs)) :: Rs)) := eff_store_elt hx hy hv ht hs h1 hr (getmap hj) ho
theorem e_storeE0 {α : Type} {enc : α → List Value} {l : List α} {a : α} {A : Option Addr} {n c : Nat} {j : Int} {vs : List Value} (hj : l[j.toNat]? = some a) (hx : ev e x = some (.pointer (some (eptr A ie.size j))) := by exact rfl) (hy : ev e y = some v := by exact rfl) (hv : v.cells.toList = vs := by simp only [Value.cells, List.toList_toArray]; exact rfl) (ht : tfind Γ.tys t = some i := by exact rfl) (hs : Nat.beq i.size vs.length = true := by exact rfl) (h1 : allOne vs = true := by exact rfl)
    (hr : Rem As (.row (.slice A n c) el ie.size (l.map enc)) Rs := by repeat (first | exact Rem.here | apply Rem.there)) (ho : Nat.ble (0 + vs.length) ie.size = true := by exact rfl) : Eff Γ e As ⟨od, .store t x y, ty, pos, af, gd⟩ (RSet (.row (.slice A n c) el ie.size ((l.map enc).set j.toNat (ovw (enc a) 0 vs)) :: Rs)) := eff_store_elt0 hx hy hv ht hs h1 hr (getmap hj) ho
theorem e_append1 {g : Nat} {xs : List (List Value)} {cs : List Value} {ats : Array TypeId} (hx : ev e x = some v := by exact rfl) (hy : ev e y = some (.slice (some ⟨g, 0, none⟩) 1 1) := by exact rfl) (hat : ats = #[t, t] := by exact rfl) (ht : tfind Γ.tys t = some i := by exact rfl) (hd : i.td = .slice el := by exact rfl) (he : tfind Γ.tys el = some ie := by exact rfl) (hz : Nat.beq ie.zero.length ie.size = true := by exact rfl) (hp : Nat.blt 0 ie.size = true := by exact rfl)
    (hr : Rem As (.row v el ie.size xs) Rs := by repeat (first | exact Rem.here | apply Rem.there)) (hA : Has As (.blk g cs u) := by repeat (first | exact Has.here | refine Has.there ?_)) (hs : Nat.beq cs.length ie.size = true := by exact rfl) (ho : allOne cs = true := by exact rfl) (hm : (xs.length + 1) * ie.bytes ≤ 140737488355328 ∧ xs.length + 1 ≤ 140737488355328 := by simp only [List.length_map]; omega) :
    Eff Γ e As ⟨od, .call { callee := .builtin .append, args := #[x, y], argTypes := ats }, ty, pos, af, gd⟩ (fun u As' => ∃ A' c', u = .slice A' (xs ++ [cs]).length c' ∧ As' = .row (.slice A' (xs ++ [cs]).length c') el ie.size (xs ++ [cs]) :: Rs) := eff_append1 hx hy hat ht hd he hz hp hr hA hs ho hm
theorem e_buildSlice1 {cs : List Value} (hx : ev e x = some v := by exact rfl) (hc : v.cells.toList = cs := by simp only [Value.cells, List.toList_toArray]; exact rfl) (ht : tfind Γ.tys t = some i := by exact rfl) (hd : i.td = .slice el := by exact rfl) (he : tfind Γ.tys el = some ie := by exact rfl) (hs : Nat.beq ie.size cs.length = true := by exact rfl) (hz : Nat.beq ie.zero.length ie.size = true := by exact rfl) (hl : Nat.ble cs.length 1000 = true := by exact rfl) :
    Eff Γ e As ⟨od, .buildSlice t 1 #[(0, x)], ty, pos, af, gd⟩ (fun v As' => ∃ b, v = .slice (some ⟨b, 0, none⟩) 1 1 ∧ As' = .blk b cs el :: As) := eff_buildSlice1 hx hc ht hd he hs hz hl
end
end Go.Eng
