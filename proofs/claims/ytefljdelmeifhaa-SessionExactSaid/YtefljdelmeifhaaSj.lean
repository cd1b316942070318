/-
  The page's own answer: sessions opened, closed, noted.
-/
import Derived.Test.YtefljdelmeifhaaSi
set_option linter.unusedVariables false
set_option linter.unusedSimpArgs false
set_option maxRecDepth 100000
namespace Go.Proofs.Ytefljdelmeifhaa
open Go.Eng
theorem Meets.ent {P : Program} {f : FuncId} {args : List Value} {w : World} {F : Nat → Prop} {R R' : Value → List Atom → Prop} (h : Meets P f args w F R) (k : ∀ v As, R v As → ∃ As', R' v As' ∧ ∀ w', HeapOK w F As w' → HeapOK w F As' w') : Meets P f args w F R' :=
  Calls.mono h fun _ _ ⟨v, As, he, hr, hh⟩ => by
    obtain ⟨As', h1, h2⟩ := k v As hr
    exact ⟨v, As', he, h1, h2 _ hh⟩
/-- No hits. -/
def bare (q : List SQ) : Prop := ∀ x ∈ q, x.1.hits = []
theorem bare_of {q q' : List SQ} (h : bare q) (e : ss q' = ss q) : bare q' := fun x hx => by
  have h1 : x.1 ∈ ss q' := List.mem_map_of_mem hx
  rw [e] at h1
  obtain ⟨y, hy, hxy⟩ := List.mem_map.1 h1
  rw [← hxy]
  exact h y hy
theorem bare_at {q : List SQ} (h : bare q) (w : World) (F : Nat → Prop) : ∀ x ∈ q, HitsAt w F x := fun x hx => by
  have := h x hx
  exact ⟨⟨fun hn => by simp [this] at hn, by simp [this], by simp [this]⟩⟩
theorem bare_take {q : List SQ} (h : bare q) (n : Nat) : bare (q.take n) := fun x hx => h x (List.mem_of_mem_take hx)
theorem bare_drop {q : List SQ} (h : bare q) (n : Nat) : bare (q.drop n) := fun x hx => h x (List.mem_of_mem_drop hx)
theorem copySessions_e (q : List SQ) (A : Option Addr) (n c : Nat) (w : World) (hn : q.length = n) (hl : Sl w (fpAll []) enc 6 q A c) (hh : bare q) (hb : q.length ≤ 100000) :
    Meets Try.prog 5 [.slice A n c] w (fpAll []) (fun v As => ∃ (q' : List SQ) (A' : Option Addr) (c' : Nat), ss q' = ss q ∧ v = .slice A' q'.length c' ∧ As = [.row (.slice A' q'.length c') 56 6 (q'.map enc)]) := by
  subst hn
  refine Meets.ent (copySessions_m q A c w hl (bare_at hh w _) ⟨hb, fun x hx => by rw [hh x hx]; simp⟩) ?_
  rintro v As ⟨q', A', c', G, h1, h2, rfl⟩
  exact ⟨_, ⟨q', A', c', h1, h2, rfl⟩, fun w' hw' => hw'.pick (by repeat (first | exact Pick.nil | exact Rem.here | apply Rem.there | apply Pick.take))⟩
theorem drop_m (q : List SQ) (A : Option Addr) (n c : Nat) (k : Int) (w : World) (hn : q.length = n) (hl : Sl w (fpAll []) enc 6 q A c) (hh : bare q) (hb : q.length ≤ 50000) (h0 : 0 ≤ k) (hk : k < q.length) :
    Meets Try.prog 37 [.slice A n c, .int .i64 k] w (fpAll []) (fun v As => ∃ (q' : List SQ) (A' : Option Addr) (c' : Nat), ss q' = (ss q).eraseIdx k.toNat ∧ v = .slice A' q'.length c' ∧ As = [.row (.slice A' q'.length c') 56 6 (q'.map enc)]) := by
  subst hn
  refine enter tysOK Try.func37 rfl Try.ntmps37 rfl (HeapOK.start w) ?_
  have hcap := hl.cap
  repeat (first | refine tc_region ?_ | (refine tc_seq ?_; intro K hK) | refine tc_block ?_ | refine tc_exit ?_ | refine tc_ret ?_ | refine tc_skip ?_ | refine tc_cond_t rfl ?_ | refine tc_cond_f rfl ?_ | refine tk_then_n ?_ | refine tk_then_r ?_ | refine tk_then_e ?_ | refine tk_block_n ?_ | refine tk_block_r ?_ | refine tk_block_hit ?_ | refine tk_block_miss rfl ?_ | refine ‹∀ (e : Env) (As : List Atom), TC _ _ _ e As → TK _ _ e As› _ _ ?_)
  refine tl_val (wanted_none rfl) (val_assign rfl) rfl rfl ?_
  refine tl_nil ?_
  repeat (first | refine tc_region ?_ | (refine tc_seq ?_; intro K hK) | refine tc_block ?_ | refine tc_exit ?_ | refine tc_ret ?_ | refine tc_skip ?_ | refine tc_cond_t rfl ?_ | refine tc_cond_f rfl ?_ | refine tk_then_n ?_ | refine tk_then_r ?_ | refine tk_then_e ?_ | refine tk_block_n ?_ | refine tk_block_r ?_ | refine tk_block_hit ?_ | refine tk_block_miss rfl ?_ | refine ‹∀ (e : Env) (As : List Atom), TC _ _ _ e As → TK _ _ e As› _ _ ?_)
  repeat (first | refine tc_region ?_ | (refine tc_seq ?_; intro K hK) | refine tc_block ?_ | refine tc_exit ?_ | refine tc_ret ?_ | refine tc_skip ?_ | refine tc_cond_t rfl ?_ | refine tc_cond_f rfl ?_ | refine tk_then_n ?_ | refine tk_then_r ?_ | refine tk_then_e ?_ | refine tk_block_n ?_ | refine tk_block_r ?_ | refine tk_block_hit ?_ | refine tk_block_miss rfl ?_ | refine ‹∀ (e : Env) (As : List Atom), TC _ _ _ e As → TK _ _ e As› _ _ ?_)
  refine tl_val (wanted_none rfl) (val_move rfl) rfl rfl ?_
  refine tl_val (wanted_none rfl) (val_move rfl) rfl rfl ?_
  refine tl_val (wanted_none rfl) (val_slice_hi rfl rfl rfl rfl rfl h0 (by omega)) rfl rfl ?_
  (refine tl_eff (wanted_none rfl) (eff_call_at rfl rfl ok5 Pick.nil (fun w hw => copySessions_e (q.take k.toNat) _ _ _ w (by simp; omega) ((hl.keep hw).takeC _) (bare_take hh _) (by simp; omega))) rfl rfl ?_; rintro _ _ ⟨_, ⟨q', A', c', hq, rfl, rfl⟩, rfl⟩; simp only [List.cons_append, List.nil_append])
  refine tl_val (wanted_none rfl) (val_assign rfl) rfl rfl ?_
  refine tl_nil ?_
  repeat (first | refine tc_region ?_ | (refine tc_seq ?_; intro K hK) | refine tc_block ?_ | refine tc_exit ?_ | refine tc_ret ?_ | refine tc_skip ?_ | refine tc_cond_t rfl ?_ | refine tc_cond_f rfl ?_ | refine tk_then_n ?_ | refine tk_then_r ?_ | refine tk_then_e ?_ | refine tk_block_n ?_ | refine tk_block_r ?_ | refine tk_block_hit ?_ | refine tk_block_miss rfl ?_ | refine ‹∀ (e : Env) (As : List Atom), TC _ _ _ e As → TK _ _ e As› _ _ ?_)
  have hql : q'.length = k.toNat := by have := congrArg List.length hq; simp at this; omega
  repeat (first | refine tc_region ?_ | (refine tc_seq ?_; intro K hK) | refine tc_block ?_ | refine tc_exit ?_ | refine tc_ret ?_ | refine tc_skip ?_ | refine tc_cond_t rfl ?_ | refine tc_cond_f rfl ?_ | refine tk_then_n ?_ | refine tk_then_r ?_ | refine tk_then_e ?_ | refine tk_block_n ?_ | refine tk_block_r ?_ | refine tk_block_hit ?_ | refine tk_block_miss rfl ?_ | refine ‹∀ (e : Env) (As : List Atom), TC _ _ _ e As → TK _ _ e As› _ _ ?_)
  refine tl_val (wanted_none rfl) (val_move rfl) rfl rfl ?_
  refine tl_val (wanted_none rfl) (val_move rfl) rfl rfl ?_
  refine tl_val (wanted_none rfl) (val_move rfl) rfl rfl ?_
  refine tl_val (wanted_none rfl) (val_add rfl rfl (by omega)) rfl rfl ?_
  refine tl_val (wanted_none rfl) (val_slice_lo rfl rfl rfl rfl rfl (by omega) (by omega)) rfl rfl ?_
  (refine tl_eff (wanted_none rfl) (eff_append (ys := (q.drop (k + 1).toNat).map enc) rfl rfl rfl rfl rfl rfl rfl rfl (by repeat (first | exact Rem.here | apply Rem.there)) (by simp) (fun w hw => ((hl.keep hw).drop _).rd.rd) (enc_ok _) (by simp [ty56]; omega) (by simp; omega)) rfl rfl ?_; rintro _ _ ⟨Ax, cx, rfl, rfl⟩)
  refine tl_val (wanted_none rfl) (val_assign rfl) rfl rfl ?_
  refine tl_nil ?_
  repeat (first | refine tc_region ?_ | (refine tc_seq ?_; intro K hK) | refine tc_block ?_ | refine tc_exit ?_ | refine tc_ret ?_ | refine tc_skip ?_ | refine tc_cond_t rfl ?_ | refine tc_cond_f rfl ?_ | refine tk_then_n ?_ | refine tk_then_r ?_ | refine tk_then_e ?_ | refine tk_block_n ?_ | refine tk_block_r ?_ | refine tk_block_hit ?_ | refine tk_block_miss rfl ?_ | refine ‹∀ (e : Env) (As : List Atom), TC _ _ _ e As → TK _ _ e As› _ _ ?_)
  (first | apply tk_ret Try.results37 | apply tk_end Try.results37); (repeat (first | exact ResOK.nil | apply ResOK.tmp rfl | apply ResOK.agg rfl (by repeat (first | exact Has.here | refine Has.there ?_)) (by exact rfl) (by exact rfl) (by exact rfl) | apply ResOK.scalar rfl (by repeat (first | exact Has.here | refine Has.there ?_)) (by exact rfl) (by exact rfl))); intro w hw; refine ⟨_, _, rfl, ?_, hw⟩; try dsimp only [retV]
  refine ⟨q' ++ q.drop (k + 1).toNat, Ax, cx, ?_, by simp, by simp; rfl⟩
  rw [List.eraseIdx_eq_take_drop_succ, ss, List.map_append]
  show ss q' ++ _ = _
  rw [hq, show (k + 1).toNat = k.toNat + 1 by omega]
  simp [ss, List.map_take, List.map_drop]
def newS (k : Int) : Sess := ⟨k, 0, 0, 0, [], k⟩
def posI (k : Int) (l : List Sess) : Nat := (l.takeWhile fun s => decide (s.client < k)).length
def insS (l : List Sess) (k : Int) : List Sess := l.take (posI k l) ++ newS k :: l.drop (posI k l)
def openS (l : List Sess) (k : Int) : List Sess := insS (if l.length = 8 then l.eraseIdx (leastI l) else l) k
theorem posI_eq : ∀ (l : List Sess) (k : Int) (i : Nat), i ≤ l.length → (∀ (j : Nat) (x : Sess), j < i → l[j]? = some x → x.client < k) → (∀ x, l[i]? = some x → k ≤ x.client) → posI k l = i
  | [], k, i, hi, _, _ => by simp at hi; subst hi; rfl
  | s :: r, k, 0, _, _, h => by
    have := h s rfl
    simp [posI, List.takeWhile, Int.not_lt.2 this]
  | s :: r, k, i + 1, hi, h1, h2 => by
    have h3 := h1 0 s (by omega) rfl
    have ih := posI_eq r k i (by simpa using hi) (fun j x hj hx => h1 (j + 1) x (by omega) (by simpa using hx)) (fun x hx => h2 x (by simpa using hx))
    unfold posI at ih ⊢
    simp [List.takeWhile, h3, ih]
theorem posI_pos {l : List Sess} {k : Int} {r : Nat} (h : Pos l k r) : posI k l = r := posI_eq l k r h.le (fun j x => h.lo j x) fun x hx => h.hi r x (Nat.le_refl _) hx
theorem leastG_lt : ∀ (l : List Sess) (k : Nat) (u : Int) (i n : Nat), k < n → i + l.length ≤ n → leastG k u i l < n
  | [], k, u, i, n, hk, _ => hk
  | s :: r, k, u, i, n, hk, hl => by
    simp only [List.length_cons] at hl
    unfold leastG
    split
    · exact leastG_lt r i _ _ n (by omega) (by omega)
    · exact leastG_lt r k _ _ n hk (by omega)
theorem leastI_lt (l : List Sess) (h : 0 < l.length) : leastI l < l.length := by
  cases l with
  | nil => simp at h
  | cons s r => exact leastG_lt r 0 _ _ _ (by simp) (by simp; omega)
end Go.Proofs.Ytefljdelmeifhaa
