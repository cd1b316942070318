/-
  THE ENGINE's ROWS, more: copy into a row of its own, from what can be read.
-/
import Derived.Test.YtaclpbkbjmbceaaEngV
import Derived.LoopN
set_option linter.unusedVariables false
namespace Go.Eng
open Go.RowKit
theorem cut_lt {g s c k : Nat} (h : k < c) : cutA (some ⟨g, 0, none⟩) s c k = some ⟨g, k * s, none⟩ := by
  unfold cutA
  rw [if_neg (by omega)]
  simp only [Option.map_some, add_mk, Nat.zero_add]
section
variable {Γ : Ctx} {e : Env} {As Rs : List Atom} {d : Option Tmp} {ty t t' el : TypeId} {i ie : TyI} {pos : String} {af : Array Edge} {gd : Option (Nat × Bool)}
theorem e_copyM {α : Type} {enc : α → List Value} {x y : Operand} {g c dl dc sl sc n s : Nat} {l zs : List α} {A D : Option Addr} {ats : Array TypeId} (k : Nat) (hR : ∀ w, HeapOK Γ.w0 Γ.F0 As w → Rd w A s (zs.map enc)) (hD : D = some ⟨g, k * s, none⟩) (hn : min sl dl = zs.length) (hk : k + zs.length ≤ l.length) (hA : A ≠ none ∨ zs = []) (hx : ev e x = some (.slice D dl dc) := by exact rfl) (hy : ev e y = some (.slice A sl sc) := by exact rfl) (hat : ats = #[t, t'] := by exact rfl) (ht : tfind Γ.tys t = some i := by exact rfl) (hd : i.td = .slice el := by exact rfl) (he : tfind Γ.tys el = some ie := by exact rfl)
    (hs : s = ie.size := by exact rfl) (hr : Rem As (.row (.slice (some ⟨g, 0, none⟩) n c) el s (l.map enc)) Rs := by repeat (first | exact Rem.here | apply Rem.there)) (ho : ∀ c ∈ zs.map enc, c.length = s ∧ allOne c = true := by exact fun c hc => by obtain ⟨y, _, rfl⟩ := List.mem_map.1 hc; exact ⟨rfl, rfl⟩) :
    Eff Γ e As ⟨d, .call { callee := .builtin .copy, args := #[x, y], argTypes := ats }, ty, pos, af, gd⟩ (fun u As' => u = .int .i64 zs.length ∧ As' = .row (.slice (some ⟨g, 0, none⟩) n c) el s ((l.take k ++ zs ++ l.drop (k + zs.length)).map enc) :: Rs) := by
  subst hs
  have h := eff_copy (d := d) (ty := ty) (pos := pos) (af := af) (gd := gd) hx hD hy hat ht hd he hr (by rw [List.length_map]; exact hn) hR ho (by simpa using hk) (hA.imp id fun h => by rw [h]; rfl)
  have e1 : ovw (l.map enc) k (zs.map enc) = (l.take k ++ zs ++ l.drop (k + zs.length)).map enc := by simp [ovw]
  rw [e1, List.length_map] at h
  exact h
end
/-! ### One cell of a block, all else left open -/
def cellG (b q : Nat) (v : Value) : Atom := .gen (fun k => k = b) (fun w => w.cell? ⟨b, q, none⟩ = some v)
section
variable {Γ : Ctx} {w0 w : World} {F0 : Nat → Prop} {As Rs Ac : List Atom} {b q : Nat} {v : Value} {cs : List Value} {u : TypeId}
theorem HeapOK.cellG (h : HeapOK w0 F0 (.blk b cs u :: Rs) w) (hc : cs[q]? = some v) : HeapOK w0 F0 (Go.Eng.cellG b q v :: Rs) w :=
  h.rep Rep.here rfl rfl rfl (Nat.le_refl _) (fun _ _ _ => rfl) (fun w' hw' => by
    have h1 := (h.cell (Has.here (r := Rs)) q).trans hc
    have h2 := hw' b rfl
    show w'.cell? ⟨b, q, none⟩ = some v
    unfold World.cell? at h1 ⊢
    simp only at h1 ⊢
    rw [h2]
    exact h1) fun k hk => ⟨.inl hk, (h.dom _ List.mem_cons_self k hk).2⟩
theorem Ent.cellG (hr : Rem As (.blk b cs u) Rs) (hc : cs[q]? = some v) : Ent Γ As (Go.Eng.cellG b q v :: Rs) := .mk fun w hw => (hw.perm hr.perm).cellG hc
theorem Ent.cell1 (hr : Rem As (.blk b cs u) Rs) (hc : cs[q]? = some v) : Ent Γ As [Go.Eng.cellG b q v] := (Ent.cellG hr hc).trans (.mk fun w hw => hw.mono (List.pairwise_singleton _ _) fun B hB => by rw [List.mem_singleton.1 hB]; exact List.mem_cons_self)
theorem Ent.cellC [hr : BlkC As b cs u] (hc : cs[q]? = some v := by exact rfl) : Ent Γ As [Go.Eng.cellG b q v] := .mk fun w hw => (hw.mono (Bs := [.blk b cs u]) (List.pairwise_singleton _ _) fun B hB => by rw [List.mem_singleton.1 hB]; exact hr.h.mem).cellG hc
theorem cellG_rd (h : HeapOK w0 F0 Ac w) (hm : Go.Eng.cellG b q v ∈ Ac) : Rd w (some ⟨b, q, none⟩) 1 [[v]] := fun _ => ⟨b, q, rfl, fun j c hj => by
  have h1 : w.cell? ⟨b, q, none⟩ = some v := h.ok _ hm w fun _ _ => rfl
  match j, hj with
  | 0, hj =>
    cases hj
    refine ⟨rfl, fun i u hi => ?_⟩
    match i, hi with
    | 0, hi => cases hi; exact h1⟩
instance rdl_cellG : Rdl Γ (Go.Eng.cellG b q v :: Rs) (some ⟨b, q, none⟩) 1 [[v]] := ⟨fun w hw => cellG_rd hw List.mem_cons_self⟩
instance rdl_cellG1 {A : Atom} : Rdl Γ (A :: Go.Eng.cellG b q v :: Rs) (some ⟨b, q, none⟩) 1 [[v]] := ⟨fun w hw => cellG_rd hw (List.mem_cons_of_mem _ List.mem_cons_self)⟩
end
section
variable {Γ : Ctx} {e : Env} {As Ac : List Atom} {Q : Exit → Act → World → Prop}
theorem a_moA {id : Nat} {l : List Oper} (A : Array Nat) (ex : List Nat) (m : Mo) (Ac : List Atom) (hE : Ent Γ As Ac) (h : TK Γ (moK Γ l.toArray (cls l #[]) ex Ac (Q .normal) m) e As) [hm : MixC Γ.P] (hA : cls l #[] = A := by kernel_rfl) (hB : (Region.noSelect l.toArray && chkMo l.toArray A ex l.length [] false m) = true := by kernel_rfl) : TC Γ Q (.region id l.toArray true) e As := .mk fun a w he hh =>
  wp_region_mo l ex m _ hm.h (by rw [hA]; exact hB) (hE.h _ (hh.drawn _)) (h.h a _ he (hh.drawn _))
theorem a_moE {id : Nat} {l : List Oper} (ex : List Nat) (m : Mo) (Ac : List Atom) (hE : Ent Γ As Ac) (h : TK Γ (moK Γ l.toArray (cls l #[]) ex Ac (Q .normal) m) e As) [hm : MixC Γ.P] (hB : (Region.noSelect l.toArray && chkMo l.toArray (cls l #[]) ex l.length [] false m) = true := by kernel_rfl) : TC Γ Q (.region id l.toArray true) e As := .mk fun a w he hh =>
  wp_region_mo l ex m _ hm.h hB (hE.h _ (hh.drawn _)) (h.h a _ he (hh.drawn _))
/-- A loop, some rounds taken one by one. -/
theorem a_rounds {c : Code} (n : Nat) (h : TC Γ (Exit.then (Code.rounds Γ.P c Q n) Q) c e As) : TC Γ Q (.loop c) e As := .mk fun a w he hh => wp_loop_rounds (n + 1) (h.h a w he hh)
theorem a_round {c : Code} {n : Nat} (h : TC Γ (Exit.then (Code.rounds Γ.P c Q n) Q) c e As) : TK Γ (Code.rounds Γ.P c Q (n + 1)) e As := .mk h.h
end
end Go.Eng
