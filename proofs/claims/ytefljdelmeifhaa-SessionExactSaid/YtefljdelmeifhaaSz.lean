/-
  SessionExact: for every input the statement's function returns true, and its arguments read behind the call as they read before. No condition: it is the given statement 'Rows.SessionExactSaid' itself.
-/
import Derived.Test.YtefljdelmeifhaaSr
import Derived.Test.YtefljdelmeifhaaEngP
import Derived.Test.YtefljdelmeifhaaRows
import Derived.ProofKit
import Derived.ChangeOld
import Derived.Carry
namespace Go.Proofs.Ytefljdelmeifhaa.sessionExact
open Go.ChangeShapes Go.WideShapes Go.ChangeAt Go.RowKit
open Go.Eng
set_option linter.unusedVariables false
set_option maxRecDepth 100000
theorem own : ownKnob Try.prog.godebug = none := by kernel_rfl
theorem laidOut : laidOutB Try.prog = true := by kernel_rfl
section
variable {H : Type} {enc : TypeId × Value → H} {W : World} {cs : List Value}
theorem lk_int (h : Lk enc Try.prog W 3 cs) : ∃ n, cs = [.int .i64 n] := let ⟨n, h, _⟩ := h.int Try.underlying3; ⟨n, h⟩
theorem lk_errno (h : Lk enc Try.prog W 28 cs) : ∃ n, cs = [.int .i64 n] := let ⟨n, h, _⟩ := h.int Try.underlying28; ⟨n, h⟩
theorem cells3 : Try.prog.cellsOf 3 = 1 := by kernel_rfl
theorem cells28 : Try.prog.cellsOf 28 = 1 := by kernel_rfl
theorem cells9 : Try.prog.cellsOf 9 = 1 := by kernel_rfl
theorem cells22 : Try.prog.cellsOf 22 = 1 := by kernel_rfl
theorem cells23 : Try.prog.cellsOf 23 = 1 := by kernel_rfl
theorem cells29 : Try.prog.cellsOf 29 = 1 := by kernel_rfl
theorem cells31 : Try.prog.cellsOf 31 = 3 := by kernel_rfl
theorem cells33 : Try.prog.cellsOf 33 = 7 := by kernel_rfl
theorem cells56 : Try.prog.cellsOf 56 = 6 := by kernel_rfl
theorem cells74 : Try.prog.cellsOf 74 = 2 := by kernel_rfl
theorem cells25 : Try.prog.cellsOf 25 = 2 := by kernel_rfl
theorem bytes74 : Try.prog.bytesOf 74 = 24 := by kernel_rfl
theorem bytes56 : Try.prog.bytesOf 56 = 64 := by kernel_rfl
theorem bytes33 : Try.prog.bytesOf 33 = 72 := by kernel_rfl
theorem lk_hit (h : Lk enc Try.prog W 74 cs) : ∃ x : Hit, cs = x.enc := by
  obtain ⟨hl, hf⟩ := h.struct Try.underlying74
  rw [cells74] at hl
  match cs, hl with
  | [a, b], _ =>
    obtain ⟨s, h1, _⟩ := (hf _ (.head _)).string Try.underlying9
    obtain ⟨n, h2⟩ := lk_int (hf _ (.tail _ (.head _)))
    simp [cells9, cells3] at h1 h2
    exact ⟨⟨s, n⟩, by rw [h1, h2]; rfl⟩
theorem lk_hits (h : Lk enc Try.prog W 29 cs) : ∃ (l : List Hit) (A : Option Addr) (c : Nat), cs = [.slice A l.length c] ∧ Sl W (fpAll []) Hit.enc 2 l A c := by
  obtain ⟨A, xs, c, h1, h2, h3, h4, h5⟩ := h.slice Try.underlying29 (by rw [cells74]; decide)
  rw [cells74] at h4
  rw [bytes74] at h3
  obtain ⟨l, rfl, _⟩ := pick_map (enc := Hit.enc) (p := fun _ => True) fun y hy => let ⟨x, hx⟩ := lk_hit (h5 y hy).2; ⟨x, hx, trivial⟩
  simp only [List.length_map] at h1 h2
  exact ⟨l, A, c, h1, h4.rdo (by decide), h2, by omega⟩
theorem lk_reply (h : Lk enc Try.prog W 31 cs) : ∃ x : SQ, cs = repl x ∧ HitsAt W (fpAll []) x := by
  obtain ⟨hl, hf⟩ := h.struct Try.underlying31
  rw [cells31] at hl
  match cs, hl with
  | [a, b, d], _ =>
    obtain ⟨e, h1⟩ := lk_errno (hf _ (.head _))
    obtain ⟨n, h2⟩ := lk_int (hf _ (.tail _ (.head _)))
    obtain ⟨l, A, c, h3, h4⟩ := lk_hits (hf _ (.tail _ (.tail _ (.head _))))
    simp [cells28, cells3, cells29] at h1 h2 h3
    exact ⟨(⟨0, 0, e, n, l, 0⟩, A, c), by rw [h1, h2, h3]; rfl, ⟨h4⟩⟩
theorem lk_sess (h : Lk enc Try.prog W 56 cs) : ∃ x : SQ, cs = Go.Proofs.Ytefljdelmeifhaa.enc x ∧ HitsAt W (fpAll []) x := by
  obtain ⟨hl, hf⟩ := h.struct Try.underlying56
  rw [cells56] at hl
  match cs, hl with
  | [a0, a1, a2, a3, a4, a5], _ =>
    obtain ⟨n0, h0⟩ := lk_int (hf _ (.head _))
    obtain ⟨n1, h1⟩ := lk_int (hf _ (.tail _ (.head _)))
    obtain ⟨x, h2, h3⟩ := lk_reply (hf _ (.tail _ (.tail _ (.head _))))
    obtain ⟨n5, h5⟩ := lk_int (hf _ (.tail _ (.tail _ (.tail _ (.head _)))))
    simp [cells3, cells31] at h0 h1 h2 h5
    simp only [repl, List.cons.injEq] at h2
    exact ⟨(⟨n0, n1, x.1.err, x.1.n, x.1.hits, n5⟩, x.2.1, x.2.2), by rw [h0, h1, h5, h2.1, h2.2.1, h2.2.2.1]; rfl, ⟨h3.rd⟩⟩
theorem lk_act (h : Lk enc Try.prog W 33 cs) : ∃ x : AQ, cs = aenc x ∧ HitsAt W (fpAll []) x.2 := by
  obtain ⟨hl, hf⟩ := h.struct Try.underlying33
  rw [cells33] at hl
  match cs, hl with
  | [a0, a1, a2, a3, a4, a5, a6], _ =>
    obtain ⟨n0, h0⟩ := lk_int (hf _ (.head _))
    obtain ⟨n1, h1⟩ := lk_int (hf _ (.tail _ (.head _)))
    obtain ⟨n2, h2⟩ := lk_int (hf _ (.tail _ (.tail _ (.head _))))
    obtain ⟨n3, h3⟩ := lk_int (hf _ (.tail _ (.tail _ (.tail _ (.head _)))))
    obtain ⟨x, h4, h5⟩ := lk_reply (hf _ (.tail _ (.tail _ (.tail _ (.tail _ (.head _))))))
    simp [cells3, cells31] at h0 h1 h2 h3 h4
    simp only [repl, List.cons.injEq] at h4
    exact ⟨((n0, n1, n2, n3), x), by rw [h0, h1, h2, h3, h4.1, h4.2.1, h4.2.2.1]; rfl, h5⟩
theorem lk_script (h : Lk enc Try.prog W 25 cs) : ∃ (q : List SQ) (l : List AQ) (A B : Option Addr) (c d : Nat), cs = [.slice A q.length c, .slice B l.length d] ∧ Sl W (fpAll []) Go.Proofs.Ytefljdelmeifhaa.enc 6 q A c ∧ Sl W (fpAll []) aenc 7 l B d ∧ (∀ x ∈ q, HitsAt W (fpAll []) x) ∧ ∀ x ∈ l, HitsAt W (fpAll []) x.2 := by
  obtain ⟨hl, hf⟩ := h.struct Try.underlying25
  rw [cells25] at hl
  match cs, hl with
  | [a0, a1], _ =>
    obtain ⟨A, xs, c, h1, h2, h3, h4, h5⟩ := (hf _ (.head _)).slice Try.underlying22 (by rw [cells56]; decide)
    obtain ⟨B, ys, d, g1, g2, g3, g4, g5⟩ := (hf _ (.tail _ (.head _))).slice Try.underlying23 (by rw [cells33]; decide)
    rw [cells56] at h4
    rw [bytes56] at h3
    rw [cells33] at g4
    rw [bytes33] at g3
    obtain ⟨q, rfl, hq⟩ := pick_map (enc := Go.Proofs.Ytefljdelmeifhaa.enc) fun y hy => lk_sess (h5 y hy).2
    obtain ⟨l, rfl, hl⟩ := pick_map (enc := aenc) fun y hy => lk_act (g5 y hy).2
    simp only [List.length_map] at h1 h2 g1 g2
    simp [cells22, cells23] at h1 g1
    exact ⟨q, l, A, B, c, d, by rw [h1, g1], ⟨h4.rdo (by decide), h2, by omega⟩, ⟨g4.rdo (by decide), g2, by omega⟩, hq, hl⟩
end
theorem lifted (os : Os) (started : os.Started) (H : Type) (enc : TypeId × Value → H) :
    ReturnsInHanded {} Try.checked os 3 .any (Rows.sessionExactSpec.pre6 enc Try.prog Try.f3 Rows.sessionExactRow.domain false) (Rows.sessionExactSpec.post enc Try.prog Try.f3 false true false false) := by
  refine returnsInHanded_of_change_sized (C := Try.checked) own started (by kernel_rfl) Try.func3
    (ChangeSpec.witness6 (enc := enc) (C := Try.checked) false ⟨#[], #[.agg #[.slice none 0 0, .slice none 0 0]], []⟩ 8 (by kernel_rfl) (by kernel_rfl) (by kernel_rfl) (by kernel_rfl)) ?_
  intro W base args ds gs before hval0 hW hcnd hsz0 _
  have hsz : (DataW.weightsEach Try.prog (Try.f3.params.toList ++ Rows.sessionExactSpec.plain.varTypes Try.prog) (ds ++ gs)).all (· ≤ reachBytes) = true := hsz0
  have hval : ∀ (j : Nat) t v, Try.f3.params[j]? = some t → args[j]? = some v → Value.okWide Try.prog W .any base t v := hval0
  have hW' := hW
  obtain ⟨p, q, hA0, hV, rfl, hfz, hnd⟩ := hW
  have hA : DataW.TrodAll enc Try.prog W 0 (fun _ => true) true Try.f3.params.toList args.toList ds p := hA0
  rw [Try.params3] at hA hval hsz
  obtain ⟨v0, vs0, d0, ds0, p0, q0, hargs, rfl, rfl, h0, r0⟩ := trodAll_cons hA
  obtain ⟨rfl, rfl, rfl⟩ := trodAll_nil r0
  obtain rfl : args = #[v0] := by cases args; simp_all
  obtain ⟨rfl, rfl⟩ := trodVars_none hV
  have k0 := h0
  have lt0 : ∀ x ∈ p0, x.block < W.heap.size := by obtain ⟨m, hm⟩ := k0; exact DataW.trod_lt m _ _ _ hm
  obtain ⟨cs0, rfl, _⟩ := okWide_struct Try.underlying25 (hval 0 25 v0 rfl rfl)
  have hlk : Lk enc Try.prog W 25 cs0.toList := by
    obtain ⟨m, hm⟩ := h0
    refine ⟨m, _, hm, fun k hk => ?_⟩
    have := List.all_eq_true.1 hsz k (DataW.weights_mem_each (j := 0) rfl rfl k hk)
    have hr : reachBytes = 140737488351232 := rfl
    simpa [hr] using this
  obtain ⟨sq, l, A, B, c, d, hcs, hl, hm, hh, ha⟩ := lk_script hlk
  have hcs' : cs0 = #[.slice A sq.length c, .slice B l.length d] := by rw [← Array.toArray_toList (xs := cs0), hcs]
  subst hcs'
  clear hA0 hval0 hsz0 hsz
  refine Calls.mono (main_m sq l A B c d W hl hm hh ha) fun e W' ⟨v, As, he, hv, hH⟩ => ?_
  subst he hv
  have bel := hH.nilA.below (fun k h => h)
  exact ⟨_, rfl, _, _, _, [], _, [], hW', trodAll_mk1 (shut_bool Try.underlying4 _), (trodAll_cons_mk (Below.trod laidOut (by kernel_rfl) (of_decide_eq_true (by kernel_rfl)) k0 bel lt0) trodAll_mk0), rfl, bel.frame _, fun h => by cases h⟩
theorem over : Rows.sessionExactRow.holds Try.pinned (OpenSpec.ofChange Rows.sessionExactSpec) :=
  OpenClaim.holds_of_wide 3 Try.f3 rfl rfl rfl rfl rfl rfl rfl ⟨rfl, rfl, rfl, rfl, rfl⟩ rfl rfl rfl rfl rfl (by kernel_rfl) Try.func3 (by kernel_rfl)
    (of_decide_eq_true (by kernel_rfl)) (by unfold Func.isWrapper; first | (rw [if_pos (by decide +kernel)]; kernel_rfl) | (rw [if_neg (by decide +kernel)]; exact ⟨rfl, rfl⟩))
    (fun os started H enc _ => lifted os started H enc)
theorem proved : Rows.SessionExactSaid := over
#print axioms proved
end Go.Proofs.Ytefljdelmeifhaa.sessionExact
namespace Go.Proofs.Ytefljdelmeifhaa
theorem SessionExact_holds : Rows.SessionExactSaid := sessionExact.proved
end Go.Proofs.Ytefljdelmeifhaa
