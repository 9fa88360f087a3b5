/- A round of a match, in plain Lean. Conditions: enough rounds, lists of at most 2^20. -/
import Derived.Test.YtmdfedjdnjaaiaaGreatKit
import Derived.Test.YtmdfedjdnjaaiaaGreatFFnExactMatchRound
import Derived.Test.YtmdfedjdnjaaiaaGreatPDealt
import Derived.Test.YtmdfedjdnjaaiaaGreatPPlayOut
import Derived.Test.YtmdfedjdnjaaiaaGreatPSettle
set_option linter.unusedVariables false
set_option linter.unusedSimpArgs false
namespace Go.Proofs.YtmdfedjdnjaaiaaGreat
open Go Go.Proofs.YtmdfedjdnjaaiaaGreat.V
def seatsFor (n round : Int) : List Int := bif inR n 2 6 && inR round 0 1000 then (List.range n.toNat).map fun i : Nat => ((i : Int) + round).tmod n else []
theorem spec_SeatsFor.eq {k : Nat} (hk : BIG ≤ k) (n round : Int) : spec_SeatsFor.f k n round = some (seatsFor n round) := by
  unfold seatsFor
  obtain ⟨k0, hk0⟩ : ∃ n', k = n' + 1 := ⟨k - 1, by simp [BIG] at hk; omega⟩
  cases h1 : inR n 2 6 with
  | false =>
    have e : spec_SeatsFor.f k n round = spec_SeatsFor.l3 k n round (fun x3 => some x3) (k0 + 1) 0 [] := by rw [← hk0]; rfl
    refine e.trans ((spec_SeatsFor.l3_succ ..).trans ?_)
    by_cases hz : (0 : Int) < n
    · refine (bif_t (dec_t hz)).trans ((bind_s (spec_l1In.eq ..)).trans ?_)
      rw [h1]; rfl
    · exact bif_f (dec_f hz)
  | true =>
    have hn := inR_iff.1 h1
    cases h2 : inR round 0 1000 with
    | false =>
      have e : spec_SeatsFor.f k n round = spec_SeatsFor.l3 k n round (fun x3 => some x3) (k0 + 1) 0 [] := by rw [← hk0]; rfl
      refine e.trans ((spec_SeatsFor.l3_succ ..).trans ((bif_t (dec_t (by omega))).trans ((bind_s (spec_l1In.eq ..)).trans ?_)))
      rw [h1]
      refine (bif_t rfl).trans ((bind_s (spec_l1In.eq ..)).trans ?_)
      rw [h2]; rfl
    | true =>
      have hr := inR_iff.1 h2
      have h := upto (B := List Int) n.toNat (fun m b i => spec_SeatsFor.l3 k n round (fun x3 => some x3) m i b) (fun i b => b ++ [((i : Int) + round).tmod n]) (fun x => some x) (fun i b => b.length = i)
        (fun m b i h hI => by
          refine (spec_SeatsFor.l3_succ ..).trans ((bif_t (dec_t (by omega))).trans ((bind_s (spec_l1In.eq ..)).trans ?_))
          rw [h1]
          refine (bif_t rfl).trans ((bind_s (spec_l1In.eq ..)).trans ?_)
          rw [h2]
          refine (bif_t rfl).trans ((chk_t (by rw [dec_f (p := n = 0) (by omega)]; rfl)).trans ((chk_t (rm8 (by omega))).trans ?_))
          rw [wrap_up (by omega), wrap_i64 (by omega) (by omega)])
        (fun b i h hI => by simp; omega)
        (fun m b hI => (spec_SeatsFor.l3_succ ..).trans (bif_f (dec_f (by omega))))
        n.toNat 0 k [] (by omega) (by simp [BIG] at hk; omega) rfl
      refine h.trans ?_
      rw [upN_map0 (fun i : Nat => ((i : Int) + round).tmod n)]
      rfl
theorem impl_SeatsFor.eq {k : Nat} (hk : BIG ≤ k) (n round : Int) : impl_SeatsFor.f k n round = some (seatsFor n round) := by
  unfold seatsFor
  refine (bind_s (impl_InRange.eq ..)).trans ?_
  cases h1 : inR n 2 6 with
  | false => rfl
  | true =>
    have hn := inR_iff.1 h1
    refine (bif_f rfl).trans ((bind_s (impl_InRange.eq ..)).trans ?_)
    cases h2 : inR round 0 1000 with
    | false => rfl
    | true =>
      have hr := inR_iff.1 h2
      refine (bif_f rfl).trans ?_
      have h := upto (B := List Int) n.toNat (fun m b i => impl_SeatsFor.l5 k n round n (fun x3 => some x3) m i b) (fun i b => b ++ [((i : Int) + round).tmod n]) (fun x => some x) (fun i b => b.length = i)
        (fun m b i h hI => by
          refine (impl_SeatsFor.l5_succ ..).trans ((bif_t (dec_t (by omega))).trans ((chk_t (by rw [dec_f (p := n = 0) (by omega)]; rfl)).trans ((chk_t (rm8 (by omega))).trans ?_)))
          rw [wrap_up (by omega), wrap_i64 (by omega) (by omega)])
        (fun b i h hI => by simp; omega)
        (fun m b hI => (impl_SeatsFor.l5_succ ..).trans (bif_f (dec_f (by omega))))
        n.toNat 0 k [] (by omega) (by simp [BIG] at hk; omega) rfl
      refine h.trans ?_
      rw [upN_map0 (fun i : Nat => ((i : Int) + round).tmod n)]
      rfl
theorem seatsFor_ok {n round : Int} (h1 : inR n 2 6 = true) (h2 : inR round 0 1000 = true) : (seatsFor n round).length = n.toNat ∧ ∀ x ∈ seatsFor n round, 0 ≤ x ∧ x ≤ n - 1 := by
  have hn := inR_iff.1 h1
  have hr := inR_iff.1 h2
  unfold seatsFor
  rw [h1, h2]
  refine ⟨by simp, fun x hx => ?_⟩
  obtain ⟨i, _, rfl⟩ := List.mem_map.1 hx
  exact tmod_range (by omega) (by omega)
/-- The cards of a round, the game, what comes of it. -/
def roundGame (r : Rl) (seed round : Int) : Gm := (newGame r (shuffled fullDeck (hashF [seed, round]))).1
def ownKinds (seats kinds : List Int) : List Int := seats.map fun w => kinds.getD w.toNat 0
def placed (seats s : List Int) (n : Nat) : List Int := upN (fun i b => b.set (seats.getD i 0).toNat (s.getD i 0)) n 0 (List.replicate n 0)
def matchRound (r : Rl) (seed round : Int) (kinds : List Int) : List Int := bif r.ok && ((kinds.length : Int) == r.n) && inR round 0 1000 then placed (seatsFor r.n round) (settled (playOut (roundGame r seed round) (ownKinds (seatsFor r.n round) kinds))) r.n.toNat else []
theorem roundGame_ok {r : Rl} (h : r.ok = true) (seed round : Int) : isGame (roundGame r seed round) = true ∧ (roundGame r seed round).r = r := by
  have hp := shuffled_perm fullDeck (hashF [seed, round])
  refine newGame_game ?_
  unfold newGame
  rw [h, isHand_perm hp, hp.length_eq, fullDeck_hand, fullDeck_len]
  rfl
theorem round_len {r : Rl} (h : r.ok = true) (seed round : Int) (kinds : List Int) : (settled (playOut (roundGame r seed round) kinds)).length = r.n.toNat := by
  obtain ⟨h1, h2⟩ := roundGame_ok h seed round
  obtain ⟨h3, _, h5⟩ := playOut_end kinds h1
  rw [settled_len h3]
  have := (isGame_iff.1 h3).2.1
  rw [h5, h2] at this
  omega
theorem upN_setlen (f : Nat → Nat) (g : Nat → Int) : ∀ (m i : Nat) (b : List Int), (upN (fun i b => b.set (f i) (g i)) m i b).length = b.length
  | 0, i, b => rfl
  | m + 1, i, b => by
    show (upN (fun i b => b.set (f i) (g i)) m (i + 1) (b.set (f i) (g i))).length = _
    rw [upN_setlen f g m (i + 1), List.length_set]
theorem matchRound_len (r : Rl) (seed round : Int) (kinds : List Int) : (matchRound r seed round kinds).length ≤ 6 := by
  unfold matchRound
  cases h : (r.ok && ((kinds.length : Int) == r.n) && inR round 0 1000) with
  | false => simp
  | true =>
    simp only [Bool.and_eq_true] at h
    have := rl_ok h.1.1
    simp only [cond_true]
    unfold placed
    rw [upN_setlen, List.length_replicate]
    omega
theorem shuffled_len (l : List Int) (seed : Int) : (shuffled l seed).length = l.length := (shuffled_perm l seed).length_eq
theorem spec_MatchRound.eq {k : Nat} (hk : BIG ≤ k) {r : Rl} (hr : r.sm) (seed round : Int) (kinds : List Int) : r.ap (spec_MatchRound.f k) seed round kinds = some (matchRound r seed round kinds) := by
  refine (bind_s (spec_SeatsFor.eq hk ..)).trans ((bind_s (spec_rl hk hr)).trans ?_)
  unfold matchRound
  cases h1 : r.ok with
  | false => rfl
  | true =>
    have hrl := rl_ok h1
    refine (bif_f rfl).trans ?_
    cases h2 : ((kinds.length : Int) == r.n) with
    | false => exact (bif_t (by rw [bne, h2]; rfl)).trans rfl
    | true =>
      have h2' : (kinds.length : Int) = r.n := by simpa using h2
      refine (bif_f (by rw [bne, h2]; rfl)).trans ?_
      cases h3 : inR round 0 1000 with
      | false =>
        have : seatsFor r.n round = [] := by unfold seatsFor; rw [h3, Bool.and_false]; rfl
        rw [this]; rfl
      | true =>
        obtain ⟨s1, s2⟩ := seatsFor_ok (n := r.n) (inR_iff.2 hrl.1) h3
        refine (bif_f (by rw [s1]; have : ¬ ((r.n.toNat : Int) = 0) := by omega
                          simpa using this)).trans ?_
        have hn := scan (B := List Int) (seatsFor r.n round) (fun m b i => spec_MatchRound.l7 k kinds (seatsFor r.n round) (fun x3 => (spec_FullDeck.f k).bind fun r4 => (spec_Hash.f k [seed, round]).bind fun r5 => (spec_Shuffled.f k r4 r5).bind fun r6 => (r.ap (spec_NewGame.f k) r6).bind fun r7 => (spec_PlayOut.f k r7.1 r7.2.1 r7.2.2.1 r7.2.2.2.1 r7.2.2.2.2.1 r7.2.2.2.2.2.1 r7.2.2.2.2.2.2.1 r7.2.2.2.2.2.2.2.1 r7.2.2.2.2.2.2.2.2.1 r7.2.2.2.2.2.2.2.2.2.1 r7.2.2.2.2.2.2.2.2.2.2.1 r7.2.2.2.2.2.2.2.2.2.2.2.1 r7.2.2.2.2.2.2.2.2.2.2.2.2.1 r7.2.2.2.2.2.2.2.2.2.2.2.2.2.1 x3).bind fun r8 => (spec_Settled.f k r8.1 r8.2.1 r8.2.2.1 r8.2.2.2.1 r8.2.2.2.2.1 r8.2.2.2.2.2.1 r8.2.2.2.2.2.2.1 r8.2.2.2.2.2.2.2.1 r8.2.2.2.2.2.2.2.2.1 r8.2.2.2.2.2.2.2.2.2.1 r8.2.2.2.2.2.2.2.2.2.2.1 r8.2.2.2.2.2.2.2.2.2.2.2.1 r8.2.2.2.2.2.2.2.2.2.2.2.2.1 r8.2.2.2.2.2.2.2.2.2.2.2.2.2).bind fun r9 => chk ((decide ((0 : Int) ≤ r.n)) && (decide (r.n.toNat * 8 ≤ room))) <| spec_MatchRound.l14 k (seatsFor r.n round) r9 (fun x10 => some x10) k (0 : Int) (List.replicate r.n.toNat (0 : Int))) m i b) (fun _ _ => true) (fun b w => b ++ [kinds.getD w.toNat 0]) (fun x3 => some (placed (seatsFor r.n round) (settled (playOut (roundGame r seed round) x3)) r.n.toNat)) (fun _ _ => none) (fun i b => b.length = i)
          (fun m b i h hI => by
            have hx := s2 _ (List.getElem_mem h)
            refine (spec_MatchRound.l7_succ ..).trans ((bif_t (dec_t (by omega))).trans ((chk_t (in_t h)).trans ?_))
            rw [Int.toNat_natCast, getD_lt (l := seatsFor r.n round) _ h, wrap_up (by omega)]
            exact (chk_t (and_t (dec_t hx.1) (dec_t (by omega)))).trans (chk_t (rm8 (by omega))))
          (fun b i h hI _ => by simp; omega)
          (fun m b hI => by
            have hg := roundGame_ok h1 seed round
            have hgs := isGame_sm hg.1 (by rw [hg.2]; exact hr)
            have hsl := shuffled_len fullDeck (hashF [seed, round])
            have hfl := fullDeck_len
            have hrlen := round_len h1 seed round b
            refine (spec_MatchRound.l7_succ ..).trans ((bif_f (dec_f (by omega))).trans ((bind_s (spec_FullDeck.eq hk)).trans ((bind_s (spec_Hash.eq hk (by simp))).trans ((bind_s (spec_Shuffled.eq hk _ (by omega))).trans ((bind_s (spec_NewGame.eq hk hr (by omega))).trans ((bind_s (spec_PlayOut.eq hk b hgs)).trans ((bind_s (spec_Settled.eq hk (playOut_sm b hgs))).trans ((chk_t (and_t (dec_t (by omega)) (rm8 (by omega)))).trans ?_))))))))
            have hL := upto (B := List Int) r.n.toNat (fun m b' i => spec_MatchRound.l14 k (seatsFor r.n round) (settled (playOut (roundGame r seed round) b)) (fun x10 => some x10) m i b') (fun i b' => b'.set ((seatsFor r.n round).getD i 0).toNat ((settled (playOut (roundGame r seed round) b)).getD i 0)) (fun x => some x) (fun i b' => b'.length = r.n.toNat)
              (fun m b' i hi hI' => by
                have hx := s2 _ (getD_mem (l := seatsFor r.n round) (i := i) 0 (by omega))
                refine (spec_MatchRound.l14_succ ..).trans ((bif_t (dec_t (by omega))).trans ((chk_t (in_t (by omega))).trans ((chk_t (in_t (by omega))).trans ?_)))
                rw [Int.toNat_natCast, wrap_up (by omega)]
                exact chk_t (and_t (dec_t hx.1) (dec_t (by omega))))
              (fun b' i hi hI' => by simpa using hI')
              (fun m b' hI' => (spec_MatchRound.l14_succ ..).trans (bif_f (dec_f (by omega))))
              r.n.toNat 0 k (List.replicate r.n.toNat 0) (by omega) (by simp [BIG] at hk; omega) (by simp)
            exact hL)
          (seatsFor r.n round).length 0 k [] (by omega) (BIG_lt hk (by omega)) rfl
        refine Eq.trans hn ?_
        rw [List.drop_zero, run_fold, foldl_snoc (fun w : Int => kinds.getD w.toNat 0), List.nil_append]
        rfl
theorem impl_MatchRound.eq {k : Nat} (hk : BIG ≤ k) {r : Rl} (hr : r.sm) (seed round : Int) (kinds : List Int) : r.ap (impl_MatchRound.f k) seed round kinds = some (matchRound r seed round kinds) := by
  refine (bind_s (impl_rl hk hr)).trans ?_
  unfold matchRound
  cases h1 : r.ok with
  | false => rfl
  | true =>
    have hrl := rl_ok h1
    refine (bif_f rfl).trans ?_
    cases h2 : ((kinds.length : Int) == r.n) with
    | false => exact (bif_t (by rw [bne, h2]; rfl)).trans rfl
    | true =>
      have h2' : (kinds.length : Int) = r.n := by simpa using h2
      refine (bif_f (by rw [bne, h2]; rfl)).trans ((bind_s (impl_InRange.eq ..)).trans ?_)
      cases h3 : inR round 0 1000 with
      | false => rfl
      | true =>
        obtain ⟨s1, s2⟩ := seatsFor_ok (n := r.n) (inR_iff.2 hrl.1) h3
        refine (bif_f rfl).trans ((bind_s (impl_SeatsFor.eq hk ..)).trans ?_)
        have hn := scan (B := List Int) (seatsFor r.n round) (fun m b i => impl_MatchRound.l5 k kinds ((seatsFor r.n round).length : Int) (seatsFor r.n round) (fun x3 => (impl_FullDeck.f k).bind fun r4 => (impl_Hash.f k [seed, round]).bind fun r5 => (impl_Shuffled.f k r4 r5).bind fun r6 => (r.ap (impl_NewGame.f k) r6).bind fun r7 => chk ((decide ((0 : Int) ≤ r.n)) && (decide (r.n.toNat * 8 ≤ room))) <| (impl_PlayOut.f k r7.1 r7.2.1 r7.2.2.1 r7.2.2.2.1 r7.2.2.2.2.1 r7.2.2.2.2.2.1 r7.2.2.2.2.2.2.1 r7.2.2.2.2.2.2.2.1 r7.2.2.2.2.2.2.2.2.1 r7.2.2.2.2.2.2.2.2.2.1 r7.2.2.2.2.2.2.2.2.2.2.1 r7.2.2.2.2.2.2.2.2.2.2.2.1 r7.2.2.2.2.2.2.2.2.2.2.2.2.1 r7.2.2.2.2.2.2.2.2.2.2.2.2.2.1 x3).bind fun r8 => (impl_Settled.f k r8.1 r8.2.1 r8.2.2.1 r8.2.2.2.1 r8.2.2.2.2.1 r8.2.2.2.2.2.1 r8.2.2.2.2.2.2.1 r8.2.2.2.2.2.2.2.1 r8.2.2.2.2.2.2.2.2.1 r8.2.2.2.2.2.2.2.2.2.1 r8.2.2.2.2.2.2.2.2.2.2.1 r8.2.2.2.2.2.2.2.2.2.2.2.1 r8.2.2.2.2.2.2.2.2.2.2.2.2.1 r8.2.2.2.2.2.2.2.2.2.2.2.2.2).bind fun r9 => impl_MatchRound.l12 k (r9.length : Int) (seatsFor r.n round) r9 (fun x10 => some x10) k (0 : Int) (List.replicate r.n.toNat (0 : Int))) m i b) (fun _ _ => true) (fun b w => b ++ [kinds.getD w.toNat 0]) (fun x3 => some (placed (seatsFor r.n round) (settled (playOut (roundGame r seed round) x3)) r.n.toNat)) (fun _ _ => none) (fun i b => b.length = i)
          (fun m b i h hI => by
            have hx := s2 _ (List.getElem_mem h)
            refine (impl_MatchRound.l5_succ ..).trans ((bif_t (dec_t (by omega))).trans ((chk_t (in_t h)).trans ?_))
            rw [Int.toNat_natCast, getD_lt (l := seatsFor r.n round) _ h, wrap_up (by omega)]
            exact (chk_t (and_t (dec_t hx.1) (dec_t (by omega)))).trans (chk_t (rm8 (by omega))))
          (fun b i h hI _ => by simp; omega)
          (fun m b hI => by
            have hg := roundGame_ok h1 seed round
            have hgs := isGame_sm hg.1 (by rw [hg.2]; exact hr)
            have hsl := shuffled_len fullDeck (hashF [seed, round])
            have hfl := fullDeck_len
            have hrlen := round_len h1 seed round b
            refine (impl_MatchRound.l5_succ ..).trans ((bif_f (dec_f (by omega))).trans ((bind_s (impl_FullDeck.eq hk)).trans ((bind_s (impl_Hash.eq hk (by simp))).trans ((bind_s (impl_Shuffled.eq hk _ (by omega))).trans ((bind_s (impl_NewGame.eq hk hr (by omega))).trans ((chk_t (and_t (dec_t (by omega)) (rm8 (by omega)))).trans ((bind_s (impl_PlayOut.eq hk b hgs)).trans ((bind_s (impl_Settled.eq hk (playOut_sm b hgs))).trans ?_))))))))
            have hL := upto (B := List Int) r.n.toNat (fun m b' i => impl_MatchRound.l12 k ((settled (playOut (roundGame r seed round) b)).length : Int) (seatsFor r.n round) (settled (playOut (roundGame r seed round) b)) (fun x10 => some x10) m i b') (fun i b' => b'.set ((seatsFor r.n round).getD i 0).toNat ((settled (playOut (roundGame r seed round) b)).getD i 0)) (fun x => some x) (fun i b' => b'.length = r.n.toNat)
              (fun m b' i hi hI' => by
                have hx := s2 _ (getD_mem (l := seatsFor r.n round) (i := i) 0 (by omega))
                refine (impl_MatchRound.l12_succ ..).trans ((bif_t (dec_t (by omega))).trans ((chk_t (in_t (by omega))).trans ((chk_t (in_t (by omega))).trans ?_)))
                rw [Int.toNat_natCast, wrap_up (by omega)]
                exact chk_t (and_t (dec_t hx.1) (dec_t (by omega))))
              (fun b' i hi hI' => by simpa using hI')
              (fun m b' hI' => (impl_MatchRound.l12_succ ..).trans (bif_f (dec_f (by omega))))
              r.n.toNat 0 k (List.replicate r.n.toNat 0) (by omega) (by simp [BIG] at hk; omega) (by simp)
            exact hL)
          (seatsFor r.n round).length 0 k [] (by omega) (BIG_lt hk (by omega)) rfl
        refine Eq.trans hn ?_
        rw [List.drop_zero, run_fold, foldl_snoc (fun w : Int => kinds.getD w.toNat 0), List.nil_append]
        rfl
end Go.Proofs.YtmdfedjdnjaaiaaGreat
