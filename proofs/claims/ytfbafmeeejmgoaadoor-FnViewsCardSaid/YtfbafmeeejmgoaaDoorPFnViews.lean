/- What views show, in plain Lean: the law answers true. Conditions: enough rounds. -/
import Derived.Test.YtfbafmeeejmgoaaDoorKit
import Derived.Test.YtfbafmeeejmgoaaDoorFFnViews
import Derived.Test.YtfbafmeeejmgoaaDoorPMeldsIn
import Derived.Test.YtfbafmeeejmgoaaDoorPDrawHands
import Derived.Test.YtfbafmeeejmgoaaDoorPDrawTb
import Derived.Test.YtfbafmeeejmgoaaDoorPFormatKey
import Derived.Test.YtfbafmeeejmgoaaDoorPText
import Derived.Test.YtfbafmeeejmgoaaDoorPBytes
set_option linter.unusedVariables false
set_option linter.unusedSimpArgs false
namespace Go.Proofs.YtfbafmeeejmgoaaDoor
open Go Go.Proofs.YtfbafmeeejmgoaaDoor.V
/-! ### Blanks -/
def sp (l : List UInt8) : Nat := (l.filter fun b => b == 32).length
theorem sp_app (a b : List UInt8) : sp (a ++ b) = sp a + sp b := by unfold sp; rw [List.filter_append, List.length_append]
theorem sp_none {l : List UInt8} (h : ∀ b ∈ l, b ≠ 32) : sp l = 0 := by
  unfold sp
  rw [List.filter_eq_nil_iff.2 (fun b hb => by simpa using h b hb)]; rfl
theorem sp_cons (b : UInt8) (l : List UInt8) : sp (b :: l) = (b == 32).toNat + sp l := by
  unfold sp
  rw [List.filter_cons]
  cases (b == 32) <;> simp; omega
theorem sp_le (l : List UInt8) : sp l ≤ l.length := List.length_filter_le _ _
theorem byte32 (b : UInt8) : (((b.toNat : Nat) : Int) == 32) = (b == 32) := by
  rw [Bool.eq_iff_iff, beq_iff_eq, beq_iff_eq]
  constructor
  · intro h
    have : b.toNat = 32 := by omega
    rw [← UInt8.ofNat_toNat (x := b), this]; rfl
  · intro h; subst h; rfl
theorem laws_FnViews.blanks {R : Type} (k : Nat) {s : ByteArray} (hs : s.size < 1073741824) (e0 : Int → Option R) : ∀ (m i n : Nat) (v : Nat), i + m = s.size → m < n → v ≤ i → laws_FnViews.l7 k s e0 n (v : Int) (i : Int) = e0 ((v + sp (s.data.toList.drop i) : Nat) : Int) := by
  intro m
  induction m with
  | zero =>
    intro i n v hi hn hv
    obtain ⟨n, rfl⟩ : ∃ n', n = n' + 1 := ⟨n - 1, by omega⟩
    rw [List.drop_of_length_le (by rw [bytes_len]; omega)]
    exact (laws_FnViews.l7_succ ..).trans (bif_f (dec_f (by omega)))
  | succ m ih =>
    intro i n v hi hn hv
    obtain ⟨n, rfl⟩ : ∃ n', n = n' + 1 := ⟨n - 1, by omega⟩
    cases hd : s.data.toList.drop i with
    | nil => have := drop_none (by omega) hd; omega
    | cons b l =>
      obtain ⟨_, hd1⟩ := drop_more hd
      have hb := sb_get hd
      refine (laws_FnViews.l7_succ ..).trans ((bif_t (dec_t (by omega))).trans ((chk_t (and_t (dec_t (by omega)) (dec_t (by omega)))).trans ?_))
      rw [Int.toNat_natCast, hb, byte32, sp_cons, wrap_up (by omega), wrap_up (by omega), ← hd1]
      cases (b == 32) with
      | true =>
        refine (bif_t rfl).trans ((ih (i + 1) n (v + 1) (by omega) (by omega) (by omega)).trans ?_)
        congr 2
        show v + 1 + _ = v + (1 + _)
        omega
      | false =>
        refine (bif_f rfl).trans ((ih (i + 1) n v (by omega) (by omega) (by omega)).trans ?_)
        congr 2
        show v + _ = v + (0 + _)
        omega
theorem laws_FnViews.gaps {R : Type} (k : Nat) {s : ByteArray} (hs : s.size < 1073741824) (e0 : Int → Option R) : ∀ (m i n : Nat) (v : Nat), i + m = s.size → m < n → v ≤ i → laws_FnViews.l16 k s e0 n (v : Int) (i : Int) = e0 ((v + sp (s.data.toList.drop i) : Nat) : Int) := by
  intro m
  induction m with
  | zero =>
    intro i n v hi hn hv
    obtain ⟨n, rfl⟩ : ∃ n', n = n' + 1 := ⟨n - 1, by omega⟩
    rw [List.drop_of_length_le (by rw [bytes_len]; omega)]
    exact (laws_FnViews.l16_succ ..).trans (bif_f (dec_f (by omega)))
  | succ m ih =>
    intro i n v hi hn hv
    obtain ⟨n, rfl⟩ : ∃ n', n = n' + 1 := ⟨n - 1, by omega⟩
    cases hd : s.data.toList.drop i with
    | nil => have := drop_none (by omega) hd; omega
    | cons b l =>
      obtain ⟨_, hd1⟩ := drop_more hd
      have hb := sb_get hd
      refine (laws_FnViews.l16_succ ..).trans ((bif_t (dec_t (by omega))).trans ((chk_t (and_t (dec_t (by omega)) (dec_t (by omega)))).trans ?_))
      rw [Int.toNat_natCast, hb, byte32, sp_cons, wrap_up (by omega), wrap_up (by omega), ← hd1]
      cases (b == 32) with
      | true =>
        refine (bif_t rfl).trans ((ih (i + 1) n (v + 1) (by omega) (by omega) (by omega)).trans ?_)
        congr 2
        show v + 1 + _ = v + (1 + _)
        omega
      | false =>
        refine (bif_f rfl).trans ((ih (i + 1) n v (by omega) (by omega) (by omega)).trans ?_)
        congr 2
        show v + _ = v + (0 + _)
        omega
theorem joinB_sp {l : List ByteArray} (hs : ∀ y ∈ l, sp y.data.toList = 0) : sp (joinB l ⟨#[32]⟩).data.toList = l.length - 1 := by
  have key : ∀ i, i ≤ l.length → sp (joinB (l.take i) ⟨#[32]⟩).data.toList = i - 1 := by
    intro i
    induction i with
    | zero => intro _; rfl
    | succ i ih =>
      intro h
      have h1 := ih (by omega)
      have h2 := hs _ (List.getElem_mem (show i < l.length by omega))
      rw [joinB_take l ⟨#[32]⟩ (by omega)]
      rcases Nat.eq_zero_or_pos i with e | e
      · subst e
        rw [dec_f (by omega), cond_false, h2]
      · rw [dec_t e, cond_true, bytes_cat, bytes_cat, sp_app, sp_app, h1, h2]
        have : sp (⟨#[32]⟩ : ByteArray).data.toList = 1 := rfl
        rw [this]; omega
  have := key l.length (Nat.le_refl _)
  rwa [List.take_length] at this
theorem cardText_sp : ∀ c : Int, isCard c = true → ∀ b ∈ (cardText c).data.toList, b ≠ 32 := by
  have all : (List.range 52).all (fun n => (cardText (n : Int)).data.toList.all fun b => !(b == 32)) = true := by decide +kernel
  intro c hc b hb
  have hr := isCard_iff.1 hc
  have h1 := List.all_eq_true.1 all c.toNat (List.mem_range.2 (by omega))
  rw [Int.toNat_of_nonneg hr.1] at h1
  have := List.all_eq_true.1 h1 b hb
  simpa using this
theorem oneText_sp (c : Int) : ∀ b ∈ (oneText c).data.toList, b ≠ 32 := fun b hb => by
  unfold oneText at hb
  cases hc : isCard c with
  | true => rw [hc, cond_true] at hb; exact cardText_sp c hc b hb
  | false =>
    rw [hc, cond_false] at hb
    have : b = 63 := by simpa [qB] using hb
    subst this; decide
theorem handText_sp (l : List Int) : sp (handText l).data.toList = 0 := by
  have key : ∀ (l : List Int) (b : ByteArray), sp (l.foldl cat b).data.toList = sp b.data.toList := by
    intro l
    induction l with
    | nil => intro b; rfl
    | cons c l ih =>
      intro b
      rw [List.foldl_cons, ih]
      unfold cat
      rw [bytes_cat, sp_app, sp_none (oneText_sp c)]; rfl
  unfold handText
  cases ((l.length : Int) == 0) with
  | true => rfl
  | false => rw [cond_false, key]; rfl
theorem digit_sp : ∀ d, d < 10 → UInt8.ofNat (48 + d) ≠ 32 := fun d hd => by
  have : d = 0 ∨ d = 1 ∨ d = 2 ∨ d = 3 ∨ d = 4 ∨ d = 5 ∨ d = 6 ∨ d = 7 ∨ d = 8 ∨ d = 9 := by omega
  rcases this with rfl | rfl | rfl | rfl | rfl | rfl | rfl | rfl | rfl | rfl <;> decide
theorem digs_sp : ∀ (m u : Nat), u < 10 ^ m → ∀ b ∈ digs u, b ≠ 32
  | 0, u, h => fun b hb => by
    have : u = 0 := by simpa using h
    subst this; cases hb
  | m + 1, u, h => fun b hb => by
    rcases Nat.eq_zero_or_pos u with e | e
    · subst e; cases hb
    · rw [Nat.pow_succ] at h
      rw [digs_step e] at hb
      rcases List.mem_append.1 hb with hb | hb
      · exact digs_sp m (u / 10) (by omega) b hb
      · simp only [List.mem_singleton] at hb
        subst hb
        exact digit_sp _ (Nat.mod_lt _ (by omega))
theorem itoaB_sp {n : Int} (hn : wfI .i64 n) : sp (itoaB n).data.toList = 0 := by
  have hw := wf64 hn
  refine sp_none fun b hb => ?_
  have hb : b ∈ Go.Lib.itoa n := hb
  have key : ∀ u : Nat, u ≤ 9223372036854775808 → b ∈ Go.Lib.decDigits u → b ≠ 32 := fun u hu hb => by
    rcases Nat.eq_zero_or_pos u with e | e
    · subst e
      rw [Go.Lib.decDigits_one (by omega)] at hb
      simp at hb; subst hb; decide
    · rw [← digs_pos e] at hb
      exact digs_sp 19 u (by omega) b hb
  unfold Go.Lib.itoa at hb
  split at hb
  · rcases List.mem_cons.1 hb with hb | hb
    · subst hb; decide
    · exact key n.natAbs (by omega) hb
  · exact key n.toNat (by omega) hb
/-! ### The texts -/
theorem foldHand (l : List (List Int)) : ∀ (b : List ByteArray), l.foldl (fun b a => b ++ [handText a]) b = b ++ l.map handText := by
  induction l with
  | nil => intro b; simp
  | cons a l ih => intro b; rw [List.foldl_cons, ih]; simp
theorem impl_FormatMelds.eq {k : Nat} (hk : BIG ≤ k) {a0 : List (List Int)} (h0 : a0.length < 1048577) (h1 : ∀ y ∈ a0, y.length < 1048577) : impl_FormatMelds.f k a0 = some (joinOr (a0.map handText) ⟨#[32]⟩) := by
  have hs : ∀ y ∈ a0.map handText, y.size ≤ 33554432 := fun y hy => by
    obtain ⟨x, hx, rfl⟩ := List.mem_map.1 hy
    have := handText_le x
    have := h1 x hx
    omega
  have hl : (a0.map handText).length < 1048577 := by simpa using h0
  unfold impl_FormatMelds.f joinOr
  rw [List.length_map]
  cases ((a0.length : Int) == 0) with
  | true => rfl
  | false =>
  refine (bif_f rfl).trans ?_
  have h := scan (B := List ByteArray) a0 (fun m b i => impl_FormatMelds.l5 k a0 (a0.length : Int) (fun x2 => (strings_Join.f k x2 (⟨#[32]⟩ : ByteArray)).bind fun r3 => some r3) m i b) (fun _ _ => true) (fun b a => b ++ [handText a]) (fun x2 => (strings_Join.f k x2 (⟨#[32]⟩ : ByteArray)).bind fun r3 => some r3) (fun _ _ => none) (fun i b => b.length = i)
    (fun m b i h hI => by
      refine (impl_FormatMelds.l5_succ ..).trans ((bif_t (dec_t (by omega))).trans ((chk_t (in_t h)).trans ?_))
      rw [Int.toNat_natCast, getD_lt _ h, wrap_up (by omega)]
      exact (bind_s (impl_HandText.eq hk (h1 _ (List.getElem_mem h)))).trans (chk_t (dec_t (by simp [room]; omega))))
    (fun b i h hI _ => by simp; omega)
    (fun m b hI => (impl_FormatMelds.l5_succ ..).trans (bif_f (dec_f (by omega))))
    a0.length 0 k [] (by omega) (BIG_lt hk h0) rfl
  refine h.trans ?_
  rw [List.drop_zero, run_fold, foldHand, List.nil_append]
  exact bind_s (strings_Join.eq k hl hs (by decide))
theorem wf_short {n : Nat} (h : n ≤ 52) : wfI .i64 (n : Int) := i64_wf (by omega)
def onB (b : Bool) : ByteArray := bif b then ⟨#[32, 111, 110]⟩ else ⟨#[32, 111, 102, 102]⟩
theorem impl_FormatTable.three {k : Nat} (hk : BIG ≤ k) (r : T30) (hr : shortT [] r) : ∃ s, impl_FormatTable.f k r.1 r.2.1 (t2 r).1 (t3 r).1 (t4 r).1 (t5 r).1 (t6 r).1 (t7 r).1 (t8 r).1 (t9 r).1 (t9 r.2).1 (t9 (t2 r)).1 (t9 (t3 r)).1 (t9 (t4 r)).1 (t9 (t5 r)).1 (t9 (t6 r)).1 (t9 (t7 r)).1 (t9 (t8 r)).1 (t9 (t9 r)).1 (t9 (t9 r.2)).1 (t9 (t9 (t2 r))).1 (t9 (t9 (t3 r))).1 (t9 (t9 (t4 r))).1 (t9 (t9 (t5 r))).1 (t9 (t9 (t6 r))).1 (t9 (t9 (t7 r))).1 (t9 (t9 (t8 r))).1 = some s ∧ s.size ≤ 100 ∧ sp s.data.toList = 3 := by
  obtain ⟨h1, h2, h3⟩ := hr
  generalize (t8 r).1 = a at h1
  generalize (t9 (t9 (t7 r))).1 = b at h2
  generalize (t9 (t9 (t8 r))).1 = c at h3
  have hw : ∀ n ∈ [(a.length : Int), (b.length : Int), (c.length : Int)], wfI .i64 n := fun n hn => by
    simp only [List.mem_cons, List.not_mem_nil, or_false] at hn
    rcases hn with rfl | rfl | rfl
    · exact wf_short h1
    · exact wf_short h2
    · exact wf_short h3
  have hsz := numsB_le (sep := ⟨#[32]⟩) hw (Nat.le_refl 1)
  rw [show [(a.length : Int), (b.length : Int), (c.length : Int)].length = 3 from rfl] at hsz
  have hsp : sp (numsB [(a.length : Int), (b.length : Int), (c.length : Int)] ⟨#[32]⟩).data.toList = 2 := joinB_sp (l := [(a.length : Int), (b.length : Int), (c.length : Int)].map itoaB) fun y hy => by
    obtain ⟨n, hn, rfl⟩ := List.mem_map.1 hy
    exact itoaB_sp (hw n hn)
  have en := impl_numbersText.eq (sep := ⟨#[32]⟩) hk (l := [(a.length : Int), (b.length : Int), (c.length : Int)]) (by simp) hw (Nat.le_refl 1)
  have fin : ∀ on : Bool, sp (numsB [(a.length : Int), (b.length : Int), (c.length : Int)] ⟨#[32]⟩ ++ onB on).data.toList = 3 := fun on => by
    rw [bytes_cat, sp_app, hsp]
    cases on <;> rfl
  have len : ∀ on : Bool, (numsB [(a.length : Int), (b.length : Int), (c.length : Int)] ⟨#[32]⟩ ++ onB on).size ≤ 100 := fun on => by
    rw [ByteArray.size_append]
    have : (onB on).size ≤ 4 := by cases on <;> decide
    omega
  generalize (t9 r).1 = on
  cases on with
  | true => exact ⟨_, (bif_t rfl).trans ((bind_s en).trans (chk_t (dec_t (show (numsB _ _).size + 3 ≤ 9223372036854775807 by omega)))), len true, fin true⟩
  | false => exact ⟨_, (bif_f rfl).trans ((bind_s en).trans (chk_t (dec_t (show (numsB _ _).size + 4 ≤ 9223372036854775807 by omega)))), len false, fin false⟩
/-! ### The law -/
def viewsRest (k : Nat) (r5 : LI) (r6 : ByteArray) (x9 : Int) : Option Bool :=
     (impl_KeyOf.f k r5).bind fun r10 =>
     bif ((r6.toList == (⟨#[45]⟩ : ByteArray).toList) == ((r10.length : Int) == 0)) then
      bif (x9 == 3) then
       (impl_FormatNumbers.f k []).bind fun r11 =>
       bif (r11.toList == (⟨#[45]⟩ : ByteArray).toList) then
        (impl_FormatSheet.f k []).bind fun r12 =>
        some (r12.toList == (⟨#[45]⟩ : ByteArray).toList)
       else
        some false
      else
       some false
     else
      some false
theorem kindName_pos {c : Int} (h : 0 ≤ c ∧ c ≤ 8) : 1 ≤ (kindName c).size := by
  have : c = 0 ∨ c = 1 ∨ c = 2 ∨ c = 3 ∨ c = 4 ∨ c = 5 ∨ c = 6 ∨ c = 7 ∨ c = 8 := by omega
  rcases this with rfl | rfl | rfl | rfl | rfl | rfl | rfl | rfl | rfl <;> decide
theorem key_dash (l : List Int) : ((keyText l).toList == (⟨#[45]⟩ : ByteArray).toList) = (((pokerKey l).length : Int) == 0) := by
  rw [bytes_eq_iff]
  unfold keyText
  rcases pokerKey_or l with h | ⟨c, x, r, h, c0, c8, _⟩
  · rw [h]; rfl
  · rw [h]
    have h0 : (((c :: x :: r).length : Int) == 0) = false := by simp; omega
    rw [h0, cond_false]
    refine dec_f fun e => ?_
    have := congrArg List.length e
    rw [bytes_len, ByteArray.size_append, ByteArray.size_append] at this
    have h3 : (⟨#[58]⟩ : ByteArray).size = 1 := rfl
    have h4 : (⟨#[45]⟩ : ByteArray).data.toList.length = 1 := rfl
    rw [h4] at this
    have hk0 := kindName_pos ⟨c0, c8⟩
    have e0 : (c :: x :: r).getD 0 0 = c := rfl
    rw [e0] at this
    omega
theorem dash_eq : ((⟨#[45]⟩ : ByteArray).toList == (⟨#[45]⟩ : ByteArray).toList) = true := by decide +kernel
theorem viewsRest_ok {k : Nat} (hk : BIG ≤ k) {l : List Int} (hl : l.length < 1048577) : viewsRest k l (keyText l) 3 = some true := by
  refine (bind_s (impl_KeyOf.eq hk hl)).trans ((bif_t (by rw [key_dash]; exact beq_self_eq_true _)).trans ((bif_t rfl).trans ?_))
  refine (bind_s (show impl_FormatNumbers.f k [] = some ⟨#[45]⟩ from rfl)).trans ((bif_t dash_eq).trans ((bind_s (show impl_FormatSheet.f k [] = some ⟨#[45]⟩ from rfl)).trans (congrArg some dash_eq)))
theorem laws_FnViews.eq {k : Nat} (hk : BIG ≤ k) {a : List Int} (_ja : a.length ≤ maxLen) (_ia : ∀ n ∈ a, wfI .u8 n) : laws_FnViews.f k a = some true := by
  refine (bind_s rfl).trans ?_
  by_cases hb : (a.length : Int) > 1048576
  · exact bif_t (dec_t hb)
  · refine (bif_f (dec_f hb)).trans ?_
    have ha : a.length < 1048577 := by omega
    obtain ⟨l, el, hl⟩ := spec_DrawMeldsIn.ok hk ha
    have em : spec_DrawFormatMelds.f k a = some (meldsIn l) := (bind_s el).trans (bind_s (spec_MeldsIn.eq hk (by omega)))
    have hml := meldsIn_len l
    have hmm := fun y => meldsIn_mem (l := l) (y := y)
    obtain ⟨q, eq, hq⟩ := spec_DrawKindOf.ok hk ha
    have eq2 : spec_DrawFormatKey.f k a = some q := bind_s eq
    obtain ⟨h0, e0, c0⟩ := spec_l1New.ok hk ha
    obtain ⟨r, er, hr⟩ := spec_l33Any.ok hk h0 c0
    have er1 : spec_DrawIsTable.f k a = some (r.1, r.2.1, (t2 r).1, (t3 r).1, (t4 r).1, (t5 r).1, (t6 r).1, (t7 r).1, (t8 r).1, (t9 r).1, (t9 r.2).1, (t9 (t2 r)).1, (t9 (t3 r)).1, (t9 (t4 r)).1, (t9 (t5 r)).1, (t9 (t6 r)).1, (t9 (t7 r)).1, (t9 (t8 r)).1, (t9 (t9 r)).1, (t9 (t9 r.2)).1, (t9 (t9 (t2 r))).1, (t9 (t9 (t3 r))).1, (t9 (t9 (t4 r))).1, (t9 (t9 (t5 r))).1, (t9 (t9 (t6 r))).1, (t9 (t9 (t7 r))).1, (t9 (t9 (t8 r))).1) := (bind_s e0).trans (bind_s er)
    have er2 : spec_DrawFormatTable.f k a = some (r.1, r.2.1, (t2 r).1, (t3 r).1, (t4 r).1, (t5 r).1, (t6 r).1, (t7 r).1, (t8 r).1, (t9 r).1, (t9 r.2).1, (t9 (t2 r)).1, (t9 (t3 r)).1, (t9 (t4 r)).1, (t9 (t5 r)).1, (t9 (t6 r)).1, (t9 (t7 r)).1, (t9 (t8 r)).1, (t9 (t9 r)).1, (t9 (t9 r.2)).1, (t9 (t9 (t2 r))).1, (t9 (t9 (t3 r))).1, (t9 (t9 (t4 r))).1, (t9 (t9 (t5 r))).1, (t9 (t9 (t6 r))).1, (t9 (t9 (t7 r))).1, (t9 (t9 (t8 r))).1) := bind_s er1
    obtain ⟨s, es, hs1, hs2⟩ := impl_FormatTable.three hk r hr
    generalize hm : meldsIn l = m at em hml hmm
    have ef := impl_FormatMelds.eq hk (a0 := m) (by omega) (fun y hy => by have := hmm y hy; omega)
    have hsz : (joinOr (m.map handText) ⟨#[32]⟩).size ≤ 1000000 := by
      unfold joinOr
      cases (((m.map handText).length : Int) == 0) with
      | true => exact of_decide_eq_true rfl
      | false =>
        have hj : ∀ i, i ≤ (m.map handText).length → (joinB ((m.map handText).take i) ⟨#[32]⟩).size ≤ 300 * i := by
          intro i
          induction i with
          | zero => intro _; exact Nat.le_refl _
          | succ i ih =>
            intro h
            have h1 := ih (by omega)
            have h2 : ((m.map handText)[i]'(by omega)).size ≤ 250 := by
              rw [List.getElem_map]
              have h3 := handText_le (m[i]'(by rw [List.length_map] at h; omega))
              have h4 := hmm _ (List.getElem_mem (show i < m.length by rw [List.length_map] at h; omega))
              omega
            have h5 : (⟨#[32]⟩ : ByteArray).size = 1 := rfl
            rw [joinB_take _ ⟨#[32]⟩ (by omega)]
            cases decide (0 < i) with
            | true => simp only [cond_true, ByteArray.size_append]; omega
            | false => simp only [cond_false]; omega
        have := hj _ (Nat.le_refl _)
        rw [List.take_length, List.length_map] at this
        rw [cond_false]; omega
    have rest := viewsRest_ok hk (l := q) (by omega)
    refine (bind_s em).trans ((bind_s ef).trans ((laws_FnViews.blanks k (s := joinOr (m.map handText) ⟨#[32]⟩) (by omega) _ _ 0 k 0 (Nat.zero_add _) (BIG_lt hk (by omega)) (Nat.le_refl _)).trans ?_))
    refine (bind_s eq2).trans ((bind_s (impl_FormatKey.eq hk (by omega))).trans ((bind_s er2).trans ((bind_s es).trans ((laws_FnViews.gaps k (s := s) (by omega) _ _ 0 k 0 (Nat.zero_add _) (BIG_lt hk (by omega)) (Nat.le_refl _)).trans ?_))))
    rw [List.drop_zero, List.drop_zero, hs2, Nat.zero_add, Nat.zero_add]
    show (bif ((m.length : Int) == 0) then viewsRest k q (keyText q) 3 else bif (((sp (joinOr (m.map handText) ⟨#[32]⟩).data.toList : Nat) : Int) == IntKind.wrap .i64 ((m.length : Int) - 1)) then viewsRest k q (keyText q) 3 else some false) = some true
    rw [rest]
    cases hm0 : ((m.length : Int) == 0) with
    | true => rfl
    | false =>
      refine (bif_f rfl).trans (bif_t ?_)
      have hne : ¬ (m.length : Int) = 0 := by simpa using hm0
      have hsp : sp (joinOr (m.map handText) ⟨#[32]⟩).data.toList = m.length - 1 := by
        unfold joinOr
        rw [List.length_map, hm0, cond_false, joinB_sp (fun y hy => by
          obtain ⟨z, _, rfl⟩ := List.mem_map.1 hy
          exact handText_sp z), List.length_map]
      rw [hsp, wrap_i64 (by omega) (by omega)]
      simp; omega
end Go.Proofs.YtfbafmeeejmgoaaDoor
