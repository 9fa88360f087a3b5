/- Records as text and back, in plain Lean. Conditions: enough rounds, lists and texts of at most 2^20. -/
import Derived.Test.YtfbafmeeejmgoaaGreatKit
import Derived.Test.YtfbafmeeejmgoaaGreatFFnRecords
import Derived.Test.YtfbafmeeejmgoaaGreatPText
import Derived.Test.YtfbafmeeejmgoaaGreatVExt
set_option linter.unusedVariables false
set_option linter.unusedSimpArgs false
namespace Go.Proofs.YtfbafmeeejmgoaaGreat
open Go Go.Proofs.YtfbafmeeejmgoaaGreat.V
/-! ### Bytes -/
theorem bytes_ext {a b : ByteArray} (h : a.data.toList = b.data.toList) : a = b := by
  cases a; cases b
  congr 1
  exact Array.ext' h
theorem bytes_eq_iff {a b : ByteArray} : (a.toList == b.toList) = decide (a.data.toList = b.data.toList) := by
  rw [Go.Lib.toList_data, Go.Lib.toList_data]
  by_cases h : a.data.toList = b.data.toList
  · rw [h]; simp
  · rw [dec_f h]; simpa using h
theorem bytes_cat (a b : ByteArray) : (a ++ b).data.toList = a.data.toList ++ b.data.toList := by rw [ByteArray.data_append, Array.toList_append]
theorem bytes_len (a : ByteArray) : a.data.toList.length = a.size := by rw [Array.length_toList]; rfl
theorem sb_get {s : ByteArray} {i : Nat} {b : UInt8} {l : List UInt8} (h : s.data.toList.drop i = b :: l) : sb s i = (b.toNat : Int) := by
  have h1 : s.data.toList[i]? = some b := by
    have := congrArg (fun l => l[0]?) h
    simpa using this
  have h2 : s.data[i]? = some b := by rw [← Array.getElem?_toList]; exact h1
  unfold sb
  rw [h2]; rfl
theorem drop_more {s : ByteArray} {i : Nat} {b : UInt8} {l : List UInt8} (h : s.data.toList.drop i = b :: l) : i < s.size ∧ s.data.toList.drop (i + 1) = l := by
  refine ⟨?_, ?_⟩
  · rw [← bytes_len]
    rcases Nat.lt_or_ge i s.data.toList.length with h1 | h1
    · exact h1
    · rw [List.drop_of_length_le h1] at h; cases h
  · have := congrArg (List.drop 1) h
    rw [List.drop_drop] at this
    simpa [Nat.add_comm] using this
theorem drop_none {s : ByteArray} {i : Nat} (hi : i ≤ s.size) (h : s.data.toList.drop i = []) : i = s.size := by
  have := List.drop_eq_nil_iff.1 h
  rw [bytes_len] at this
  omega
/-! ### Cards -/
def rankI (b : UInt8) : Int := Go.Lib.indexByte [50, 51, 52, 53, 54, 55, 56, 57, 84, 74, 81, 75, 65] b
def suitI (b : UInt8) : Int := Go.Lib.indexByte [99, 100, 104, 115] b
def cardOf (a b : UInt8) : Int := bif decide (rankI a < 0) then -1 else bif decide (suitI b < 0) then -1 else suitI b * 13 + rankI a
theorem u8_all {p : UInt8 → Bool} (h : (List.range 256).all (fun n => p (UInt8.ofNat n)) = true) (b : UInt8) : p b = true := by
  have h1 := List.all_eq_true.1 h b.toNat (List.mem_range.2 b.toNat_lt)
  rwa [UInt8.ofNat_toNat] at h1
theorem rankI_le (b : UInt8) : -1 ≤ rankI b ∧ rankI b ≤ 12 := by
  have := u8_all (p := fun b => decide (-1 ≤ rankI b) && decide (rankI b ≤ 12)) (by decide +kernel) b
  simpa using this
theorem suitI_le (b : UInt8) : -1 ≤ suitI b ∧ suitI b ≤ 3 := by
  have := u8_all (p := fun b => decide (-1 ≤ suitI b) && decide (suitI b ≤ 3)) (by decide +kernel) b
  simpa using this
def rankAt (n : Nat) : List UInt8 := (ranksB.extract n (n + 1)).data.toList
def suitAt (n : Nat) : List UInt8 := (suitsB.extract n (n + 1)).data.toList
theorem rankAt_I {b : UInt8} (h : 0 ≤ rankI b) : rankAt (rankI b).toNat = [b] := by
  have := u8_all (p := fun b => decide (rankI b < 0) || decide (rankAt (rankI b).toNat = [b])) (by decide +kernel) b
  rw [dec_f (by omega)] at this
  simpa using this
theorem suitAt_I {b : UInt8} (h : 0 ≤ suitI b) : suitAt (suitI b).toNat = [b] := by
  have := u8_all (p := fun b => decide (suitI b < 0) || decide (suitAt (suitI b).toNat = [b])) (by decide +kernel) b
  rw [dec_f (by omega)] at this
  simpa using this
theorem I_rankAt {n : Nat} (h : n < 13) : ∃ b, rankAt n = [b] ∧ rankI b = (n : Int) ∧ b ≠ 42 ∧ b ≠ 45 := by
  have : n = 0 ∨ n = 1 ∨ n = 2 ∨ n = 3 ∨ n = 4 ∨ n = 5 ∨ n = 6 ∨ n = 7 ∨ n = 8 ∨ n = 9 ∨ n = 10 ∨ n = 11 ∨ n = 12 := by omega
  rcases this with rfl | rfl | rfl | rfl | rfl | rfl | rfl | rfl | rfl | rfl | rfl | rfl | rfl
  · exact ⟨50, by decide +kernel⟩
  · exact ⟨51, by decide +kernel⟩
  · exact ⟨52, by decide +kernel⟩
  · exact ⟨53, by decide +kernel⟩
  · exact ⟨54, by decide +kernel⟩
  · exact ⟨55, by decide +kernel⟩
  · exact ⟨56, by decide +kernel⟩
  · exact ⟨57, by decide +kernel⟩
  · exact ⟨84, by decide +kernel⟩
  · exact ⟨74, by decide +kernel⟩
  · exact ⟨81, by decide +kernel⟩
  · exact ⟨75, by decide +kernel⟩
  · exact ⟨65, by decide +kernel⟩
theorem I_suitAt {n : Nat} (h : n < 4) : ∃ b, suitAt n = [b] ∧ suitI b = (n : Int) := by
  have : n = 0 ∨ n = 1 ∨ n = 2 ∨ n = 3 := by omega
  rcases this with rfl | rfl | rfl | rfl
  · exact ⟨99, by decide +kernel⟩
  · exact ⟨100, by decide +kernel⟩
  · exact ⟨104, by decide +kernel⟩
  · exact ⟨115, by decide +kernel⟩
theorem cardText_data {c : Int} (h : isCard c = true) : (cardText c).data.toList = rankAt (rankOf c).toNat ++ suitAt (suitOf c).toNat := by
  obtain ⟨r0, r1, s0, s1, _, _⟩ := card_bounds h
  unfold cardText rankAt suitAt
  rw [h, cond_true, bytes_cat]
  rw [show (rankOf c + 1).toNat = (rankOf c).toNat + 1 by omega, show (suitOf c + 1).toNat = (suitOf c).toNat + 1 by omega]
/-- A card's text is two bytes that lead back to it. -/
theorem cardText_of {c : Int} (h : isCard c = true) : ∃ a b, (cardText c).data.toList = [a, b] ∧ cardOf a b = c ∧ a ≠ 42 ∧ a ≠ 45 := by
  obtain ⟨r0, r1, s0, s1, e1, e2⟩ := card_bounds h
  obtain ⟨a, a1, a2, a3, a4⟩ := I_rankAt (n := (rankOf c).toNat) (by omega)
  obtain ⟨b, b1, b2⟩ := I_suitAt (n := (suitOf c).toNat) (by omega)
  refine ⟨a, b, ?_, ?_, a3, a4⟩
  · rw [cardText_data h, a1, b1]; rfl
  · unfold cardOf
    rw [a2, b2, dec_f (by omega), dec_f (by omega)]
    have := isCard_iff.1 h
    have h1 := Int.tmod_eq_emod_of_nonneg (b := 13) this.1
    have h2 := Int.tdiv_eq_ediv_of_nonneg (b := 13) this.1
    simp only [cond_false]
    omega
/-- Two bytes that are a card are its text. -/
theorem cardOf_text {a b : UInt8} (h : 0 ≤ cardOf a b) : isCard (cardOf a b) = true ∧ (cardText (cardOf a b)).data.toList = [a, b] := by
  have ha := rankI_le a
  have hb := suitI_le b
  by_cases h1 : rankI a < 0
  · unfold cardOf at h; rw [dec_t h1] at h; simp at h
  · by_cases h2 : suitI b < 0
    · unfold cardOf at h; rw [dec_f h1, dec_t h2] at h; simp at h
    · have e : cardOf a b = suitI b * 13 + rankI a := by unfold cardOf; rw [dec_f h1, dec_f h2]; rfl
      have hc : isCard (cardOf a b) = true := isCard_iff.2 (by omega)
      refine ⟨hc, ?_⟩
      obtain ⟨r0, r1, s0, s1, e1, e2⟩ := card_bounds hc
      have hn := (isCard_iff.1 hc).1
      have h3 := Int.tmod_eq_emod_of_nonneg (b := 13) hn
      have h4 := Int.tdiv_eq_ediv_of_nonneg (b := 13) hn
      rw [cardText_data hc, show rankOf (cardOf a b) = rankI a by omega, show suitOf (cardOf a b) = suitI b by omega, rankAt_I (by omega), suitAt_I (by omega)]
      rfl
theorem impl_ParseCard.two (k : Nat) {s : ByteArray} {a b : UInt8} (h : s.data.toList = [a, b]) : impl_ParseCard.f k s = some (cardOf a b) := by
  have hs : s.size = 2 := by rw [← bytes_len, h]; rfl
  have e0 : sb s 0 = (a.toNat : Int) := sb_get (l := [b]) (by rw [h]; rfl)
  have e1 : sb s 1 = (b.toNat : Int) := sb_get (l := []) (by rw [h]; rfl)
  have n0 : ((a.toNat : Int).toNat.toUInt8) = a := by simp
  have n1 : ((b.toNat : Int).toNat.toUInt8) = b := by simp
  have f0 : indexB (⟨#[50, 51, 52, 53, 54, 55, 56, 57, 84, 74, 81, 75, 65]⟩ : ByteArray) (sb s 0) = rankI a := by unfold indexB rankI; rw [e0, n0]
  have f1 : indexB (⟨#[99, 100, 104, 115]⟩ : ByteArray) (sb s 1) = suitI b := by unfold indexB suitI; rw [e1, n1]
  have ha := rankI_le a
  have hb := suitI_le b
  unfold impl_ParseCard.f
  refine (bif_f (by rw [hs]; rfl)).trans ((chk_t (dec_t (by omega))).trans ((bind_s rfl).trans ((chk_t (dec_t (by omega))).trans ((bind_s rfl).trans ?_))))
  rw [f0, f1]
  unfold cardOf
  by_cases h1 : rankI a < 0
  · rw [dec_t h1]; rfl
  · rw [dec_f h1]
    by_cases h2 : suitI b < 0
    · rw [dec_t h2]; rfl
    · rw [dec_f h2]
      simp only [cond_false]
      rw [wrap_i64 (n := suitI b * 13) (by omega) (by omega), wrap_i64 (by omega) (by omega)]
/-! ### A record's text -/
def starB : ByteArray := ⟨#[42]⟩
def recOne (c : Int) : ByteArray := bif isCard c then cardText c else bif c == -1 then starB else qB
theorem recOne_le (c : Int) : (recOne c).size ≤ 17 := by
  unfold recOne
  cases isCard c with
  | true => exact cardText_le c
  | false =>
    have : qB.size = 1 := rfl
    have : starB.size = 1 := rfl
    cases (c == -1) <;> simp only [cond_true, cond_false] <;> omega
def recCat (b : ByteArray) (c : Int) : ByteArray := b ++ recOne c
def recText (l : List Int) : ByteArray := bif ((l.length : Int) == 0) then dashB else l.foldl recCat ByteArray.empty
theorem recCat_le (b : ByteArray) (c : Int) : (recCat b c).size ≤ b.size + 17 := by
  have := recOne_le c
  unfold recCat; rw [ByteArray.size_append]; omega
def recBytes (l : List Int) : List UInt8 := l.flatMap fun c => (recOne c).data.toList
theorem foldRec : ∀ (l : List Int) (b : ByteArray), (l.foldl recCat b).data.toList = b.data.toList ++ recBytes l
  | [], b => by simp [recBytes]
  | c :: l, b => by
    rw [List.foldl_cons, foldRec l]
    unfold recCat recBytes
    rw [bytes_cat, List.flatMap_cons, List.append_assoc]
theorem recText_data {l : List Int} (h : l ≠ []) : (recText l).data.toList = recBytes l := by
  unfold recText
  have : ((l.length : Int) == 0) = false := by
    cases l with
    | nil => exact absurd rfl h
    | cons a l => simp; omega
  rw [this, cond_false, foldRec]
  rfl
theorem recText_le (l : List Int) : (recText l).size ≤ 17 * l.length + 1 := by
  unfold recText
  have key : ∀ (l : List Int) (b : ByteArray), (l.foldl recCat b).size ≤ b.size + 17 * l.length := by
    intro l
    induction l with
    | nil => intro b; simp
    | cons c l ih =>
      intro b
      have h1 := ih (recCat b c)
      have h2 := recCat_le b c
      rw [List.foldl_cons, List.length_cons]; omega
  cases ((l.length : Int) == 0) with
  | true => have : dashB.size = 1 := rfl
            simp only [cond_true]; omega
  | false =>
    have := key l ByteArray.empty
    have e : ByteArray.empty.size = 0 := rfl
    simp only [cond_false]; omega
theorem impl_RecordText.eq {k : Nat} (hk : BIG ≤ k) {l : List Int} (hl : l.length < 1048577) : impl_RecordText.f k l = some (recText l) := by
  refine bind_s ?_
  unfold impl_listText.f recText
  cases ((l.length : Int) == 0) with
  | true => rfl
  | false =>
  refine (bif_f rfl).trans ?_
  have h := scan (B := ByteArray) l (fun m b i => impl_listText.l5 k (-1) (⟨#[42]⟩ : ByteArray) l (l.length : Int) (fun x3 => some x3) m b i) (fun _ _ => true) recCat (fun x3 => some x3) (fun _ _ => none) (fun i b => b.size ≤ 17 * i)
    (fun m b i h hI => by
      refine (impl_listText.l5_succ ..).trans ((bif_t (dec_t (by omega))).trans ((chk_t (in_t h)).trans ?_))
      rw [Int.toNat_natCast, getD_lt _ h, wrap_up (by omega)]
      refine (bind_s (impl_IsCard.eq ..)).trans ?_
      unfold recCat recOne
      have e63 : (⟨#[63]⟩ : ByteArray).size = 1 := rfl
      have e42 : (⟨#[42]⟩ : ByteArray).size = 1 := rfl
      cases hc : isCard l[i] with
      | false =>
        refine (bif_f rfl).trans ?_
        cases (l[i] == (-1 : Int)) with
        | true => exact (bif_t rfl).trans ((chk_t (dec_t (by simp only [maxI]; omega))).trans rfl)
        | false => exact (bif_f rfl).trans ((chk_t (dec_t (by simp only [maxI]; omega))).trans rfl)
      | true =>
        have := cardText_le l[i]
        refine (bif_t rfl).trans ((bind_s (impl_CardText.eq ..)).trans ((chk_t (dec_t ?_)).trans rfl))
        simp only [maxI]; omega)
    (fun b i h hI _ => by have := recCat_le b l[i]; show (recCat b l[i]).size ≤ 17 * (i + 1); omega)
    (fun m b hI => (impl_listText.l5_succ ..).trans (bif_f (dec_f (by omega))))
    l.length 0 k ByteArray.empty (by omega) (BIG_lt hk hl) (by simp)
  refine h.trans ?_
  rw [List.drop_zero, run_fold]; rfl
theorem spec_RecordText.eq {k : Nat} (hk : BIG ≤ k) {l : List Int} (hl : l.length < 1048577) : spec_RecordText.f k l = some (recText l) := by
  have h := scan (B := ByteArray) l (fun m b i => spec_RecordText.l3 k l (fun x3 => bif ((l.length : Int) == 0) then some dashB else some x3) m b i) (fun _ _ => true) recCat (fun x3 => bif ((l.length : Int) == 0) then some dashB else some x3) (fun _ _ => none) (fun i b => b.size ≤ 17 * i)
    (fun m b i h hI => by
      refine (spec_RecordText.l3_succ ..).trans ((bif_t (dec_t (by omega))).trans ((chk_t (in_t h)).trans ?_))
      rw [Int.toNat_natCast, getD_lt _ h, wrap_up (by omega)]
      unfold recCat recOne
      have e63 : (⟨#[63]⟩ : ByteArray).size = 1 := rfl
      have e42 : (⟨#[42]⟩ : ByteArray).size = 1 := rfl
      cases hm : (l[i] == (-1 : Int)) with
      | true =>
        have hc : isCard l[i] = false := by
          have : l[i] = -1 := by simpa using hm
          rw [this]; rfl
        rw [hc]
        exact (bif_t rfl).trans ((chk_t (dec_t (by simp only [maxI]; omega))).trans rfl)
      | false =>
        refine (bif_f rfl).trans ((chk_t (in_t h)).trans ((bind_s (spec_IsCard.eq ..)).trans ?_))
        cases hc : isCard l[i] with
        | false => exact (bif_f rfl).trans ((chk_t (dec_t (by simp only [maxI]; omega))).trans rfl)
        | true =>
          have := cardText_le l[i]
          exact (bif_t rfl).trans ((chk_t (in_t h)).trans ((bind_s (spec_CardText.eq ..)).trans ((chk_t (dec_t (by simp only [maxI]; omega))).trans rfl))))
    (fun b i h hI _ => by have := recCat_le b l[i]; show (recCat b l[i]).size ≤ 17 * (i + 1); omega)
    (fun m b hI => (spec_RecordText.l3_succ ..).trans (bif_f (dec_f (by omega))))
    l.length 0 k ByteArray.empty (by omega) (BIG_lt hk hl) (by simp)
  refine h.trans ?_
  rw [List.drop_zero, run_fold]
  unfold recText
  cases ((l.length : Int) == 0) <;> rfl
/-! ### A record read -/
def readRec : List UInt8 → Option (List Int)
  | [] => some []
  | [a] => bif a == 42 then some [-1] else none
  | a :: b :: l => bif a == 42 then (readRec (b :: l)).map fun r => -1 :: r else bif decide (cardOf a b < 0) then none else (readRec l).map fun r => cardOf a b :: r
theorem readRec_len : ∀ (m : Nat) (t : List UInt8) {r : List Int}, t.length ≤ m → readRec t = some r → r.length ≤ t.length
  | _, [], r, _, h => by simp [readRec] at h; subst h; simp
  | _, [a], r, _, h => by
    unfold readRec at h
    cases h1 : (a == 42) with
    | true => rw [h1] at h; simp at h; subst h; simp
    | false => rw [h1] at h; simp at h
  | 0, a :: b :: l, r, hm, h => by simp at hm
  | m + 1, a :: b :: l, r, hm, h => by
    unfold readRec at h
    simp only [List.length_cons] at hm
    cases h1 : (a == 42) with
    | true =>
      rw [h1, cond_true] at h
      obtain ⟨q, hq, rfl⟩ := Option.map_eq_some_iff.1 h
      have := readRec_len m (b :: l) (by simp only [List.length_cons]; omega) hq
      simp only [List.length_cons] at this ⊢; omega
    | false =>
      rw [h1, cond_false] at h
      cases h2 : decide (cardOf a b < 0) with
      | true => rw [h2] at h; simp at h
      | false =>
        rw [h2, cond_false] at h
        obtain ⟨q, hq, rfl⟩ := Option.map_eq_some_iff.1 h
        have := readRec_len m l (by omega) hq
        simp only [List.length_cons] at this ⊢; omega
theorem star_bytes : (recOne (-1)).data.toList = [42] := by decide +kernel
theorem readRec_text : ∀ (m : Nat) (t : List UInt8) {r : List Int}, t.length ≤ m → readRec t = some r → recBytes r = t
  | _, [], r, _, h => by simp [readRec] at h; subst h; rfl
  | _, [a], r, _, h => by
    unfold readRec at h
    cases h1 : (a == 42) with
    | true =>
      rw [h1] at h; simp at h; subst h
      have : a = 42 := by simpa using h1
      subst this
      unfold recBytes
      rw [List.flatMap_cons, star_bytes]; rfl
    | false => rw [h1] at h; simp at h
  | 0, a :: b :: l, r, hm, h => by simp at hm
  | m + 1, a :: b :: l, r, hm, h => by
    unfold readRec at h
    simp only [List.length_cons] at hm
    cases h1 : (a == 42) with
    | true =>
      rw [h1, cond_true] at h
      obtain ⟨q, hq, rfl⟩ := Option.map_eq_some_iff.1 h
      have ih := readRec_text m (b :: l) (by simp only [List.length_cons]; omega) hq
      have : a = 42 := by simpa using h1
      subst this
      unfold recBytes at ih ⊢
      rw [List.flatMap_cons, star_bytes, ih]; rfl
    | false =>
      rw [h1, cond_false] at h
      cases h2 : decide (cardOf a b < 0) with
      | true => rw [h2] at h; simp at h
      | false =>
        rw [h2, cond_false] at h
        obtain ⟨q, hq, rfl⟩ := Option.map_eq_some_iff.1 h
        have ih := readRec_text m l (by omega) hq
        obtain ⟨hc, ht⟩ := cardOf_text (a := a) (b := b) (by have := of_decide_eq_false h2; omega)
        have e : (recOne (cardOf a b)).data.toList = [a, b] := by unfold recOne; rw [hc]; exact ht
        unfold recBytes at ih ⊢
        rw [List.flatMap_cons, e, ih]; rfl
/-- What a record may hold. -/
def recOK (l : List Int) : Prop := ∀ c ∈ l, c = -1 ∨ isCard c = true
theorem readRec_star (t : List UInt8) : readRec (42 :: t) = (readRec t).map fun r => -1 :: r := by
  cases t with
  | nil => rfl
  | cons b l => rfl
theorem readRec_card {a b : UInt8} (t : List UInt8) (h : a ≠ 42) (hc : 0 ≤ cardOf a b) : readRec (a :: b :: t) = (readRec t).map fun r => cardOf a b :: r := by
  have h1 : (a == 42) = false := by simpa using h
  rw [readRec, h1, cond_false, dec_f (by omega), cond_false]
theorem readRec_bytes : ∀ {l : List Int}, recOK l → readRec (recBytes l) = some l
  | [], _ => rfl
  | c :: l, h => by
    have ih := readRec_bytes (l := l) (fun x hx => h x (List.mem_cons_of_mem _ hx))
    unfold recBytes at ih ⊢
    rw [List.flatMap_cons]
    rcases h c (List.mem_cons_self ..) with rfl | hc
    · rw [star_bytes]
      rw [List.cons_append, List.nil_append, readRec_star, ih]; rfl
    · obtain ⟨a, b, e1, e2, e3, _⟩ := cardText_of hc
      have e : (recOne c).data.toList = [a, b] := by unfold recOne; rw [hc]; exact e1
      rw [e]
      rw [List.cons_append, List.cons_append, List.nil_append, readRec_card _ e3 (by rw [e2]; exact (isCard_iff.1 hc).1), ih, e2]; rfl
theorem recText_dash {l : List Int} (h : recOK l) : (recText l).data.toList = [45] → l = [] := by
  intro e
  cases l with
  | nil => rfl
  | cons c l =>
    rw [recText_data (by simp)] at e
    unfold recBytes at e
    rw [List.flatMap_cons] at e
    rcases h c (List.mem_cons_self ..) with rfl | hc
    · rw [star_bytes] at e; simp at e
    · obtain ⟨a, b, e1, e2, e3, _⟩ := cardText_of hc
      have e0 : (recOne c).data.toList = [a, b] := by unfold recOne; rw [hc]; exact e1
      rw [e0] at e; simp at e
theorem impl_ParseRecord.loop {R : Type} {k : Nat} {s : ByteArray} (hs : s.size < 1073741824) (e0 : LI → LI → Option R) (e1 : LI → Option R) : ∀ (m i n : Nat) (acc : List Int), i ≤ s.size → s.size - i ≤ m → m < n → acc.length ≤ i →
    (∀ q, readRec (s.data.toList.drop i) = some q → impl_ParseRecord.l5 k s e0 e1 n (i : Int) acc = e1 (acc ++ q)) ∧ (readRec (s.data.toList.drop i) = none → ∃ x, impl_ParseRecord.l5 k s e0 e1 n (i : Int) acc = e0 [] x) := by
  intro m
  induction m using Nat.strongRecOn with
  | ind m ih =>
    intro i n acc hi hm hn ha
    obtain ⟨n, rfl⟩ : ∃ n', n = n' + 1 := ⟨n - 1, by omega⟩
    cases hd : s.data.toList.drop i with
    | nil =>
      have := drop_none hi hd
      refine ⟨fun q hq => ?_, fun hq => by simp [readRec] at hq⟩
      simp [readRec] at hq
      subst hq
      rw [List.append_nil]
      exact (impl_ParseRecord.l5_succ ..).trans (bif_f (dec_f (by omega)))
    | cons a l =>
      obtain ⟨hlt, hd1⟩ := drop_more hd
      have hsb := sb_get hd
      have start : impl_ParseRecord.l5 k s e0 e1 (n + 1) (i : Int) acc = _ := (impl_ParseRecord.l5_succ ..).trans ((bif_t (dec_t (by omega))).trans (chk_t (and_t (dec_t (by omega)) (dec_t (by omega)))))
      rw [Int.toNat_natCast, hsb] at start
      cases h42 : (a == 42) with
      | true =>
        have ea : a = 42 := by simpa using h42
        subst ea
        have go : impl_ParseRecord.l5 k s e0 e1 (n + 1) (i : Int) acc = impl_ParseRecord.l5 k s e0 e1 n ((i + 1 : Nat) : Int) (acc ++ [-1]) := by
          refine start.trans ((bif_t rfl).trans ((chk_t (rm8 (by omega))).trans ?_))
          rw [wrap_up (by omega)]
        obtain ⟨g1, g2⟩ := ih (s.size - (i + 1)) (by omega) (i + 1) n (acc ++ [-1]) (by omega) (Nat.le_refl _) (by omega) (by rw [List.length_append, List.length_singleton]; omega)
        rw [hd1] at g1 g2
        rw [readRec_star, go]
        refine ⟨fun q hq => ?_, fun hq => g2 (by simpa using hq)⟩
        obtain ⟨q', h1, rfl⟩ := Option.map_eq_some_iff.1 hq
        rw [g1 q' h1, List.append_assoc]; rfl
      | false =>
        have hne : a ≠ 42 := by simpa using h42
        have hn42 : ((a.toNat : Int) == 42) = false := by
          have : a.toNat ≠ 42 := fun e => hne (by rw [← UInt8.ofNat_toNat (x := a), e]; rfl)
          simp; omega
        have start := start.trans (bif_f hn42)
        have ew : IntKind.wrap .i64 ((i : Int) + 2) = ((i + 2 : Nat) : Int) := by rw [wrap_i64 (by omega) (by omega)]; omega
        rw [ew] at start
        cases l with
        | nil =>
          have h1 := drop_none (i := i + 1) (by omega) hd1
          refine ⟨fun q hq => ?_, fun _ => ⟨acc, start.trans (bif_f (dec_f (by omega)))⟩⟩
          rw [readRec, h42] at hq; cases hq
        | cons b l =>
          obtain ⟨hlt1, hd2⟩ := drop_more hd1
          have hex : (s.extract i (i + 2)).data.toList = [a, b] := by rw [Go.Lib.extract_data, hd, show i + 2 - i = 2 by omega]; rfl
          have hp := impl_ParseCard.two k hex
          have start := start.trans ((bif_t (dec_t (by omega))).trans ((chk_t (and_t (dec_t (by omega)) (dec_t (by omega)))).trans ((chk_t (and_t (dec_t (by omega)) (dec_t (by omega)))).trans (bind_s (by rw [Int.toNat_natCast]; exact hp)))))
          by_cases hc : cardOf a b < 0
          · refine ⟨fun q hq => ?_, fun _ => ⟨acc, start.trans (bif_t (dec_t hc))⟩⟩
            rw [readRec, h42, cond_false, dec_t hc] at hq; cases hq
          · have go : impl_ParseRecord.l5 k s e0 e1 (n + 1) (i : Int) acc = impl_ParseRecord.l5 k s e0 e1 n ((i + 2 : Nat) : Int) (acc ++ [cardOf a b]) := start.trans ((bif_f (dec_f hc)).trans (chk_t (rm8 (by omega))))
            obtain ⟨g1, g2⟩ := ih (s.size - (i + 2)) (by omega) (i + 2) n (acc ++ [cardOf a b]) (by omega) (Nat.le_refl _) (by omega) (by rw [List.length_append, List.length_singleton]; omega)
            rw [hd2] at g1 g2
            rw [readRec_card _ hne (by omega), go]
            refine ⟨fun q hq => ?_, fun hq => g2 (by simpa using hq)⟩
            obtain ⟨q', h1, rfl⟩ := Option.map_eq_some_iff.1 hq
            rw [g1 q' h1, List.append_assoc]; rfl
/-- The record of a text. -/
def parseRec (s : ByteArray) : List Int × Bool := bif decide (s.data.toList = [45]) then ([], true) else match readRec s.data.toList with
  | some [] => ([], false)
  | some (c :: l) => (c :: l, true)
  | none => ([], false)
theorem impl_ParseRecord.eq {k : Nat} (hk : BIG ≤ k) {s : ByteArray} (hs : s.size < 1073741824) : impl_ParseRecord.f k s = some (parseRec s) := by
  unfold impl_ParseRecord.f parseRec
  rw [bytes_eq_iff]
  show (bif decide (s.data.toList = [45]) then _ else _) = _
  by_cases hd : s.data.toList = [45]
  · rw [dec_t hd]; rfl
  · rw [dec_f hd, cond_false, cond_false]
    obtain ⟨g1, g2⟩ := impl_ParseRecord.loop (k := k) hs (fun x2 x3 => some (x2, false)) (fun x4 => bif ((x4.length : Int) == 0) then some ([], false) else some (x4, true)) s.size 0 k [] (Nat.zero_le _) (Nat.le_refl _) (BIG_lt' hk hs) (Nat.le_refl _)
    rw [List.drop_zero] at g1 g2
    cases hr : readRec s.data.toList with
    | none => obtain ⟨x, h⟩ := g2 hr; exact h
    | some q =>
      refine (g1 q hr).trans ?_
      rw [List.nil_append]
      cases q with
      | nil => rfl
      | cons c l =>
        refine bif_f ?_
        simp; omega
/-- What is read is written back. -/
theorem parseRec_text {s : ByteArray} (h : (parseRec s).2 = true) : recText (parseRec s).1 = s ∧ (parseRec s).1.length ≤ s.size := by
  unfold parseRec at h ⊢
  by_cases hd : s.data.toList = [45]
  · rw [dec_t hd, cond_true]
    exact ⟨bytes_ext (by rw [hd]; rfl), Nat.zero_le _⟩
  · rw [dec_f hd, cond_false] at h ⊢
    cases hr : readRec s.data.toList with
    | none => rw [hr] at h; cases h
    | some q =>
      cases q with
      | nil => rw [hr] at h; cases h
      | cons c l =>
        have h1 := readRec_text s.size _ (by rw [bytes_len]; exact Nat.le_refl _) hr
        have h2 := readRec_len s.size _ (by rw [bytes_len]; exact Nat.le_refl _) hr
        rw [bytes_len] at h2
        exact ⟨bytes_ext (by rw [recText_data (by simp), h1]), h2⟩
/-- What is written is read back. -/
theorem parseRec_of {l : List Int} (h : recOK l) : parseRec (recText l) = (l, true) := by
  unfold parseRec
  cases l with
  | nil => rfl
  | cons c l =>
    rw [dec_f (fun e => by have := recText_dash h e; cases this), cond_false, recText_data (by simp), readRec_bytes h]
end Go.Proofs.YtfbafmeeejmgoaaGreat
