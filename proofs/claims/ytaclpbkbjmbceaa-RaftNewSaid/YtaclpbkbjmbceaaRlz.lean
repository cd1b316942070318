/-
  RaftNew: for every input the statement's function returns true, and its argument reads behind the call as it read before. No condition: it is the given statement 'Rows.RaftNewSaid' itself.
-/
import Derived.Test.YtaclpbkbjmbceaaRlw
import Derived.Test.YtaclpbkbjmbceaaEngP
import Derived.Test.YtaclpbkbjmbceaaRows
import Derived.ProofKit
import Derived.ChangeOld
import Derived.Carry
namespace Go.Proofs.Ytaclpbkbjmbceaa.raftNew
open Go.ChangeShapes Go.WideShapes Go.ChangeAt Go.RowKit
open Go.Eng
set_option linter.unusedVariables false
set_option maxRecDepth 100000
theorem own : ownKnob Try.prog.godebug = none := by kernel_rfl
theorem laidOut : laidOutB Try.prog = true := by kernel_rfl
section
variable {H : Type} {enc : TypeId × Value → H} {W : World} {cs : List Value}
theorem lk_int (h : Lk enc Try.prog W 3 cs) : ∃ n, cs = [.int .i64 n] := let ⟨n, h, _⟩ := h.int Try.underlying3; ⟨n, h⟩
theorem lk_u64 (h : Lk enc Try.prog W 23 cs) : ∃ n, cs = [.int .u64 n] := let ⟨n, h, _⟩ := h.int Try.underlying23; ⟨n, h⟩
theorem cells3 : Try.prog.cellsOf 3 = 1 := by kernel_rfl
theorem cells23 : Try.prog.cellsOf 23 = 1 := by kernel_rfl
theorem cells25 : Try.prog.cellsOf 25 = 3 := by kernel_rfl
theorem bytes25 : Try.prog.bytesOf 25 = 24 := by kernel_rfl
theorem lk_arg (h : Lk enc Try.prog W 25 cs) : ∃ x : Int × Int × Int, cs = nenc x := by
  obtain ⟨hl, hf⟩ := h.struct Try.underlying25
  rw [cells25] at hl
  match cs, hl with
  | [a, b, d], _ =>
    obtain ⟨n1, h1⟩ := lk_int (hf _ (.head _))
    obtain ⟨n2, h2⟩ := lk_int (hf _ (.tail _ (.head _)))
    obtain ⟨n3, h3⟩ := lk_u64 (hf _ (.tail _ (.tail _ (.head _))))
    simp [cells3, cells23] at h1 h2 h3
    exact ⟨(n1, n2, n3), by rw [h1, h2, h3]⟩
theorem lk_args (h : Lk enc Try.prog W 22 cs) : ∃ (l : List (Int × Int × Int)) (A : Option Addr) (c : Nat), cs = [.slice A l.length c] ∧ Sl W (fpAll []) nenc 3 l A c := by
  obtain ⟨A, xs, c, h1, h2, h3, h4, h5⟩ := h.slice Try.underlying22 (by rw [cells25]; decide)
  rw [cells25] at h4
  rw [bytes25] at h3
  obtain ⟨l, rfl, _⟩ := pick_map (enc := nenc) (p := fun _ => True) fun y hy => let ⟨x, hx⟩ := lk_arg (h5 y hy).2; ⟨x, hx, trivial⟩
  simp only [List.length_map] at h1 h2
  exact ⟨l, A, c, h1, h4.rdo (by decide), h2, by omega⟩
end
theorem lifted (os : Os) (started : os.Started) (H : Type) (enc : TypeId × Value → H) :
    ReturnsInHanded {} Try.checked os 3 .any (Rows.raftNewSpec.pre6 enc Try.prog Try.f3 Rows.raftNewRow.domain false) (Rows.raftNewSpec.post enc Try.prog Try.f3 false true false false) := by
  refine returnsInHanded_of_change_sized (C := Try.checked) own started (by kernel_rfl) Try.func3
    (ChangeSpec.witness6 (enc := enc) (C := Try.checked) false ⟨#[], #[.slice none 0 0], []⟩ 8 (by kernel_rfl) (by kernel_rfl) (by kernel_rfl) (by kernel_rfl)) ?_
  intro W base args ds gs before hval0 hW hcnd hsz0 _
  have hsz : (DataW.weightsEach Try.prog (Try.f3.params.toList ++ Rows.raftNewSpec.plain.varTypes Try.prog) (ds ++ gs)).all (· ≤ reachBytes) = true := hsz0
  have hval : ∀ (j : Nat) t v, Try.f3.params[j]? = some t → args[j]? = some v → Value.okWide Try.prog W .any base t v := hval0
  have hW' := hW
  obtain ⟨p, q, hA0, hV, rfl, hfz, hnd⟩ := hW
  have hA : DataW.TrodAll enc Try.prog W 0 (fun _ => true) true Try.f3.params.toList args.toList ds p := hA0
  rw [Try.params3] at hA hval hsz
  obtain ⟨v0, vs0, d0, ds0, p0, q0, hargs, rfl, rfl, h0, r0⟩ := trodAll_cons hA
  obtain ⟨rfl, rfl, rfl⟩ := trodAll_nil r0
  obtain rfl : args = #[v0] := by cases args; simp_all
  obtain ⟨rfl, rfl⟩ := trodVars_none hV
  have k0 := h0
  have lt0 : ∀ x ∈ p0, x.block < W.heap.size := by obtain ⟨m, hm⟩ := k0; exact DataW.trod_lt m _ _ _ hm
  obtain ⟨A0, n0, c0, rfl⟩ := okWide_slice Try.underlying22 (hval 0 22 v0 rfl rfl)
  have hlk : Lk enc Try.prog W 22 [.slice A0 n0 c0] := by
    obtain ⟨m, hm⟩ := h0
    refine ⟨m, _, hm, fun k hk => ?_⟩
    have := List.all_eq_true.1 hsz k (DataW.weights_mem_each (j := 0) rfl rfl k hk)
    have hr : reachBytes = 140737488351232 := rfl
    simpa [hr] using this
  obtain ⟨l, A, c, hcs, hl⟩ := lk_args hlk
  obtain ⟨rfl, rfl, rfl⟩ : A0 = A ∧ n0 = l.length ∧ c0 = c := by simpa using hcs
  clear hA0 hval0 hsz0 hsz
  refine Calls.mono (raftNew_m l _ _ W) fun e W' ⟨v, As, he, hv, hH⟩ => ?_
  subst he hv
  have bel := hH.nilA.below (fun k h => h)
  exact ⟨_, rfl, _, _, _, [], _, [], hW', trodAll_mk1 (shut_bool Try.underlying4 _), (trodAll_cons_mk (Below.trod laidOut (by kernel_rfl) (of_decide_eq_true (by kernel_rfl)) k0 bel lt0) trodAll_mk0), rfl, bel.frame _, fun h => by cases h⟩
theorem over : Rows.raftNewRow.holds Try.pinned (OpenSpec.ofChange Rows.raftNewSpec) :=
  OpenClaim.holds_of_wide 3 Try.f3 rfl rfl rfl rfl rfl rfl rfl ⟨rfl, rfl, rfl, rfl, rfl⟩ rfl rfl rfl rfl rfl (by kernel_rfl) Try.func3 (by kernel_rfl)
    (of_decide_eq_true (by kernel_rfl)) (by unfold Func.isWrapper; first | (rw [if_pos (by decide +kernel)]; kernel_rfl) | (rw [if_neg (by decide +kernel)]; exact ⟨rfl, rfl⟩))
    (fun os started H enc _ => lifted os started H enc)
theorem proved : Rows.RaftNewSaid := over
#print axioms proved
end Go.Proofs.Ytaclpbkbjmbceaa.raftNew
namespace Go.Proofs.Ytaclpbkbjmbceaa
theorem RaftNew_holds : Rows.RaftNewSaid := raftNew.proved
end Go.Proofs.Ytaclpbkbjmbceaa
