/- How many melds are in a hand: by all its parts, and by ranks and first cards; in plain Lean. Conditions: the hand is sorted. -/
import Derived.Test.YtfbafmeeejmgoaaGreatKit
import Derived.Test.YtfbafmeeejmgoaaGreatFFnMeasured
import Derived.Test.YtfbafmeeejmgoaaGreatPSorted
import Derived.Test.YtfbafmeeejmgoaaGreatPPerm
import Derived.Test.YtfbafmeeejmgoaaGreatPCard
set_option linter.unusedVariables false
set_option linter.unusedSimpArgs false
namespace Go.Proofs.YtfbafmeeejmgoaaGreat
open Go Go.Proofs.YtfbafmeeejmgoaaGreat.V
/-! ### Sorting -/
abbrev Asc (l : List Int) : Prop := l.Pairwise fun a b => a < b
abbrev AscE (l : List Int) : Prop := l.Pairwise fun a b => a ≤ b
theorem posF_spec (c : Int) {v : List Int} (hs : AscE v) : ∀ k, k ≤ v.length → (∀ j (h : j < v.length), j < posF c v k → v[j] ≤ c) ∧ ∀ j (h : j < v.length), posF c v k ≤ j → j < k → c < v[j]
  | 0, _ => ⟨fun j h h1 => by simp [posF] at h1, fun j h h1 h2 => by omega⟩
  | k + 1, hk => by
    obtain ⟨h1, h2⟩ := posF_spec c hs k (by omega)
    have hkl : k < v.length := by omega
    have e : v.getD k 0 = v[k] := getD_lt _ hkl
    unfold posF
    rw [e]
    by_cases hc : v[k] > c
    · rw [dec_t hc]
      refine ⟨h1, fun j h h3 h4 => ?_⟩
      by_cases hj : j = k
      · subst hj; exact hc
      · exact h2 j h h3 (by omega)
    · rw [dec_f hc]
      simp only [cond_false]
      refine ⟨fun j h h3 => ?_, fun j h h3 h4 => by omega⟩
      by_cases hj : j = k
      · subst hj; omega
      · have := List.pairwise_iff_getElem.1 hs j k h hkl (by omega)
        omega
theorem insI_asc (c : Int) {v : List Int} (hs : AscE v) : AscE (insI v c) := by
  obtain ⟨h1, h2⟩ := posF_spec c hs v.length (Nat.le_refl _)
  have hp := posF_le c v v.length
  unfold insI
  generalize posF c v v.length = p at h1 h2 hp
  refine List.pairwise_append.2 ⟨hs.sublist (List.take_sublist _ _), List.pairwise_cons.2 ⟨fun x hx => ?_, hs.sublist (List.drop_sublist _ _)⟩, fun a ha b hb => ?_⟩
  · obtain ⟨i, hi, rfl⟩ := List.getElem_of_mem hx
    rw [List.length_drop] at hi
    rw [List.getElem_drop]
    have := h2 (p + i) (by omega) (by omega) (by omega)
    omega
  · obtain ⟨i, hi, rfl⟩ := List.getElem_of_mem ha
    rw [List.length_take] at hi
    rw [List.getElem_take]
    have := h1 i (by omega) (by omega)
    rcases List.mem_cons.1 hb with rfl | hb
    · exact this
    · obtain ⟨j, hj, rfl⟩ := List.getElem_of_mem hb
      rw [List.length_drop] at hj
      rw [List.getElem_drop]
      have := h2 (p + j) (by omega) (by omega) (by omega)
      omega
theorem insI_permM (c : Int) (v : List Int) : (insI v c).Perm (c :: v) := by
  unfold insI
  refine List.perm_middle.trans ?_
  rw [List.take_append_drop]
theorem foldl_ins : ∀ (l v : List Int), AscE v → AscE (l.foldl insI v) ∧ (l.foldl insI v).Perm (v ++ l)
  | [], v, h => ⟨h, by simp⟩
  | a :: l, v, h => by
    obtain ⟨h1, h2⟩ := foldl_ins l (insI v a) (insI_asc a h)
    refine ⟨h1, h2.trans ?_⟩
    exact ((insI_permM a v).append_right l).trans (by simpa using List.perm_middle.symm)
theorem sortedI_permM (l : List Int) : (sortedI l).Perm l := by
  have := (foldl_ins l [] List.Pairwise.nil).2
  rw [List.nil_append] at this
  exact this
theorem sortedI_ascE (l : List Int) : AscE (sortedI l) := (foldl_ins l [] List.Pairwise.nil).1
theorem asc_of {l : List Int} (h : AscE l) (hn : l.Nodup) : Asc l := by
  refine List.pairwise_iff_getElem.2 fun i j hi hj hij => ?_
  have h1 := List.pairwise_iff_getElem.1 h i j hi hj hij
  have h2 := List.pairwise_iff_getElem.1 hn i j hi hj hij
  omega
theorem Asc.nodup {l : List Int} (h : Asc l) : l.Nodup := h.imp fun {a b} hab => by omega
/-- A list in order is sorted to itself. -/
theorem insI_last {v : List Int} {c : Int} (h : ∀ x ∈ v, x < c) : insI v c = v ++ [c] := by
  have e : posF c v v.length = v.length := by
    cases hv : v.length with
    | zero => rfl
    | succ k =>
      unfold posF
      have hk : k < v.length := by omega
      rw [getD_lt _ hk, dec_f (by have := h _ (List.getElem_mem hk); omega)]
      rfl
  unfold insI
  rw [e, List.take_length, List.drop_length]
theorem foldl_asc : ∀ (l v : List Int), Asc (v ++ l) → l.foldl insI v = v ++ l
  | [], v, h => by simp
  | a :: l, v, h => by
    rw [List.foldl_cons, insI_last (fun x hx => (List.pairwise_append.1 h).2.2 x hx a (by simp)), foldl_asc l (v ++ [a]) (by simpa using h)]
    simp
theorem sortedI_self {l : List Int} (h : Asc l) : sortedI l = l := by
  have := foldl_asc l [] (by simpa using h)
  simpa [sortedI] using this
/-! ### Counting over all parts of a list -/
def cntN (f : List Int → Nat) : List Int → Nat
  | [] => f []
  | a :: l => cntN f l + cntN (fun x => f (a :: x)) l
def pick : Nat → List Int → List Int
  | _, [] => []
  | n, a :: l => bif n % 2 == 1 then a :: pick (n / 2) l else pick (n / 2) l
def sumM (f : Nat → Nat) : Nat → Nat
  | 0 => 0
  | n + 1 => sumM f n + f n
theorem sumM_congr {f g : Nat → Nat} : ∀ n, (∀ i, i < n → f i = g i) → sumM f n = sumM g n
  | 0, _ => rfl
  | n + 1, h => by rw [sumM, sumM, sumM_congr n (fun i hi => h i (by omega)), h n (by omega)]
theorem sumM_double (f : Nat → Nat) : ∀ n, sumM f (2 * n) = sumM (fun i => f (2 * i)) n + sumM (fun i => f (2 * i + 1)) n
  | 0 => rfl
  | n + 1 => by
    have ih := sumM_double f n
    rw [show 2 * (n + 1) = 2 * n + 1 + 1 by omega, sumM, sumM, sumM, sumM, ih]
    omega
theorem sumM_pick : ∀ (l : List Int) (f : List Int → Nat), sumM (fun i => f (pick i l)) (2 ^ l.length) = cntN f l
  | [], f => by simp [sumM, pick, cntN]
  | a :: l, f => by
    rw [List.length_cons, Nat.pow_succ, Nat.mul_comm, sumM_double]
    have e1 : sumM (fun i => f (pick (2 * i) (a :: l))) (2 ^ l.length) = sumM (fun i => f (pick i l)) (2 ^ l.length) := sumM_congr _ fun i _ => by
      show f (bif 2 * i % 2 == 1 then a :: pick (2 * i / 2) l else pick (2 * i / 2) l) = _
      rw [show 2 * i % 2 = 0 by omega, show 2 * i / 2 = i by omega]; rfl
    have e2 : sumM (fun i => f (pick (2 * i + 1) (a :: l))) (2 ^ l.length) = sumM (fun i => f (a :: pick i l)) (2 ^ l.length) := sumM_congr _ fun i _ => by
      show f (bif (2 * i + 1) % 2 == 1 then a :: pick ((2 * i + 1) / 2) l else pick ((2 * i + 1) / 2) l) = _
      rw [show (2 * i + 1) % 2 = 1 by omega, show (2 * i + 1) / 2 = i by omega]; rfl
    rw [e1, e2, sumM_pick l f, sumM_pick l fun x => f (a :: x)]
    rfl
theorem pick_sub : ∀ (n : Nat) (l : List Int), (pick n l).Sublist l
  | _, [] => List.Sublist.slnil
  | n, a :: l => by
    unfold pick
    cases n % 2 == 1 with
    | true => exact (pick_sub (n / 2) l).cons_cons a
    | false => exact (pick_sub (n / 2) l).cons a
theorem cntN_congr : ∀ (l : List Int) {f g : List Int → Nat}, (∀ x, x.Sublist l → f x = g x) → cntN f l = cntN g l
  | [], f, g, h => h [] List.Sublist.slnil
  | a :: l, f, g, h => by
    unfold cntN
    rw [cntN_congr l (fun x hx => h x (hx.cons a)), cntN_congr l (f := fun x => f (a :: x)) (g := fun x => g (a :: x)) (fun x hx => h _ (hx.cons_cons a))]
theorem cntN_zero : ∀ (l : List Int), cntN (fun _ => 0) l = 0
  | [] => rfl
  | a :: l => by unfold cntN; rw [cntN_zero l]
theorem cntN_add : ∀ (l : List Int) (f g : List Int → Nat), cntN (fun x => f x + g x) l = cntN f l + cntN g l
  | [], f, g => rfl
  | a :: l, f, g => by
    unfold cntN
    rw [cntN_add l f g, cntN_add l (fun x => f (a :: x)) fun x => g (a :: x)]
    omega
theorem cntN_sum (l : List Int) (e : List Int → List Int → Nat) : ∀ Ms : List (List Int), cntN (fun x => (Ms.map (e x)).sum) l = (Ms.map fun m => cntN (fun x => e x m) l).sum
  | [] => by simpa using cntN_zero l
  | m :: Ms => by
    simp only [List.map_cons, List.sum_cons]
    rw [cntN_add l (fun x => e x m) fun x => (Ms.map (e x)).sum, cntN_sum l e Ms]
def eqN (x m : List Int) : Nat := (x == m).toNat
theorem cntN_eq : ∀ (l m : List Int), Asc l → Asc m → cntN (fun x => eqN x m) l = (m.all fun c => hasCard l c).toNat
  | [], [], _, _ => rfl
  | [], b :: m, _, _ => rfl
  | a :: l, [], h, _ => by
    unfold cntN
    rw [cntN_eq l [] (List.pairwise_cons.1 h).2 List.Pairwise.nil]
    have : (fun x => eqN (a :: x) []) = fun _ => 0 := by funext x; rfl
    rw [this, cntN_zero]; rfl
  | a :: l, b :: m, h, hm => by
    obtain ⟨h1, h2⟩ := List.pairwise_cons.1 h
    obtain ⟨m1, m2⟩ := List.pairwise_cons.1 hm
    unfold cntN
    rw [cntN_eq l (b :: m) h2 hm]
    have al : hasCard l a = false := hasCard_no.2 fun hh => by have := h1 a hh; omega
    have hc : ∀ c, hasCard (a :: l) c = ((a == c) || hasCard l c) := fun c => by simp [hasCard]
    have gt : ∀ (t : List Int), (∀ c ∈ t, a < c) → (t.all fun c => hasCard (a :: l) c) = t.all fun c => hasCard l c := fun t ht => by
      rw [Bool.eq_iff_iff, List.all_eq_true, List.all_eq_true]
      refine forall_congr' fun c => forall_congr' fun hcm => ?_
      have : (a == c) = false := by have := ht c hcm; simp; omega
      rw [hc, this, Bool.false_or]
    by_cases e : a = b
    · subst e
      have e1 : (fun x => eqN (a :: x) (a :: m)) = fun x => eqN x m := by
        funext x
        unfold eqN
        rw [List.cons_beq_cons, beq_self_eq_true, Bool.true_and]
      rw [e1, cntN_eq l m h2 m2, List.all_cons, al, Bool.false_and, List.all_cons, hc, beq_self_eq_true, gt m m1]
      simp
    · have e1 : (fun x => eqN (a :: x) (b :: m)) = fun _ => 0 := by
        funext x
        unfold eqN
        rw [List.cons_beq_cons, beq_eq_false_iff_ne.2 e]; rfl
      rw [e1, cntN_zero, Nat.add_zero]
      congr 1
      by_cases hab : a < b
      · exact (gt (b :: m) fun c hcm => by
          rcases List.mem_cons.1 hcm with rfl | hcm
          · exact hab
          · have := m1 c hcm; omega).symm
      · have nb : hasCard l b = false := hasCard_no.2 fun hh => by have := h1 b hh; omega
        have nb2 : hasCard (a :: l) b = false := by rw [hc, nb, beq_eq_false_iff_ne.2 e]; rfl
        rw [List.all_cons, List.all_cons, nb, nb2, Bool.false_and, Bool.false_and]
/-! ### All melds -/
def setsAt (r : Int) : List (List Int) := [[r, r + 13, r + 26, r + 39], [r, r + 13, r + 26], [r, r + 13, r + 39], [r, r + 26, r + 39], [r + 13, r + 26, r + 39]]
def runOf (c : Int) (m : Nat) : List Int := (List.range m).map fun (i : Nat) => c + (i : Int)
def runsAt (c : Nat) : List (List Int) := (List.range (11 - c % 13)).map fun (j : Nat) => runOf (c : Int) (j + 3)
def allMelds : List (List Int) := ((List.range 13).flatMap fun (r : Nat) => setsAt (r : Int)) ++ (List.range 52).flatMap runsAt
def ndB : List (List Int) → Bool
  | [] => true
  | x :: l => !(l.any fun y => x == y) && ndB l
theorem ndB_sum {x : List Int} : ∀ {l : List (List Int)}, ndB l = true → (l.map (eqN x)).sum = (l.any fun y => x == y).toNat
  | [], _ => rfl
  | y :: l, h => by
    obtain ⟨h1, h2⟩ := and_bool h
    rw [List.map_cons, List.sum_cons, ndB_sum h2, List.any_cons]
    unfold eqN
    by_cases e : x = y
    · subst e
      have : (l.any fun y => x == y) = false := by simpa using h1
      rw [this]; simp
    · rw [beq_eq_false_iff_ne.2 e]; simp
theorem allMelds_nd : ndB allMelds = true := by kernel_rfl
def ascB : List Int → Bool
  | [] => true
  | a :: l => (l.all fun b => decide (a < b)) && ascB l
theorem ascB_asc : ∀ {l : List Int}, ascB l = true → Asc l
  | [], _ => List.Pairwise.nil
  | a :: l, h => by
    obtain ⟨h1, h2⟩ := and_bool h
    exact List.pairwise_cons.2 ⟨fun b hb => of_decide_eq_true (List.all_eq_true.1 h1 b hb), ascB_asc h2⟩
theorem allMelds_asc : (allMelds.all ascB) = true := by kernel_rfl
def sameRank (x : List Int) : Bool := x.all fun c => rankOf c == rankOf (x.getD 0 0)
def isSetMeld (x : List Int) : Bool := isHand x && inR (x.length : Int) 3 4 && sameRank x
/-- Is each card the next of the first one's suit. -/
def runB (x : List Int) : Bool := x.zipIdx.all fun y => (suitOf y.1 == suitOf (x.getD 0 0)) && (y.1 == x.getD 0 0 + (y.2 : Int))
def isRunMeld (x : List Int) : Bool := isHand x && !decide ((x.length : Int) < 3) && runB (sortedI x)
def isMeld (x : List Int) : Bool := isSetMeld x || isRunMeld x
theorem allMelds_ok : (allMelds.all isMeld) = true := by kernel_rfl
theorem suit_div {c : Int} (h : isCard c = true) : suitOf c = c / 13 ∧ 0 ≤ c ∧ c ≤ 51 := by
  have := isCard_iff.1 h
  unfold suitOf
  rw [h, cond_true, Int.tdiv_eq_ediv_of_nonneg this.1]
  exact ⟨rfl, this⟩
theorem rank_mod {c : Int} (h : isCard c = true) : rankOf c = c % 13 ∧ 0 ≤ c ∧ c ≤ 51 := by
  have := isCard_iff.1 h
  unfold rankOf
  rw [h, cond_true, Int.tmod_eq_emod_of_nonneg this.1]
  exact ⟨rfl, this⟩
theorem mem_sets {r : Nat} (hr : r < 13) {x : List Int} (h : x ∈ setsAt (r : Int)) : x ∈ allMelds := List.mem_append_left _ (List.mem_flatMap.2 ⟨r, List.mem_range.2 hr, h⟩)
theorem set_mem {x : List Int} (h : isSetMeld x = true) (ha : Asc x) : x ∈ allMelds := by
  unfold isSetMeld at h
  simp only [Bool.and_eq_true] at h
  obtain ⟨⟨h1, h2⟩, h3⟩ := h
  have h2 := inR_iff.1 h2
  have hc := (isHand_iff.1 h1).1
  unfold sameRank at h3
  rw [List.all_eq_true] at h3
  match x, h2, hc, h3, ha with
  | [a, b, c], _, hc, h3, ha =>
    have ra := rank_mod (hc a (by simp))
    have rb := rank_mod (hc b (by simp))
    have rc := rank_mod (hc c (by simp))
    have q1 := h3 b (by simp)
    have q2 := h3 c (by simp)
    simp only [List.getD_cons_zero, beq_iff_eq] at q1 q2
    simp only [List.pairwise_cons, List.mem_cons, List.not_mem_nil, or_false, forall_eq_or_imp, forall_eq] at ha
    obtain ⟨⟨p1, p2⟩, p3, _⟩ := ha
    obtain ⟨r, hr⟩ : ∃ r : Nat, (r : Int) = a % 13 := ⟨(a % 13).toNat, by omega⟩
    refine mem_sets (r := r) (by omega) ?_
    have : (a = r ∧ b = r + 13 ∧ c = r + 26) ∨ (a = r ∧ b = r + 13 ∧ c = r + 39) ∨ (a = r ∧ b = r + 26 ∧ c = r + 39) ∨ (a = r + 13 ∧ b = r + 26 ∧ c = r + 39) := by omega
    unfold setsAt
    rcases this with ⟨rfl, rfl, rfl⟩ | ⟨rfl, rfl, rfl⟩ | ⟨rfl, rfl, rfl⟩ | ⟨rfl, rfl, rfl⟩ <;> simp
  | [a, b, c, d], _, hc, h3, ha =>
    have ra := rank_mod (hc a (by simp))
    have rb := rank_mod (hc b (by simp))
    have rc := rank_mod (hc c (by simp))
    have rd := rank_mod (hc d (by simp))
    have q1 := h3 b (by simp)
    have q2 := h3 c (by simp)
    have q3 := h3 d (by simp)
    simp only [List.getD_cons_zero, beq_iff_eq] at q1 q2 q3
    simp only [List.pairwise_cons, List.mem_cons, List.not_mem_nil, or_false, forall_eq_or_imp, forall_eq] at ha
    obtain ⟨⟨p1, p2, p3⟩, ⟨p4, p5⟩, p6, _⟩ := ha
    obtain ⟨r, hr⟩ : ∃ r : Nat, (r : Int) = a % 13 := ⟨(a % 13).toNat, by omega⟩
    refine mem_sets (r := r) (by omega) ?_
    have : a = r ∧ b = r + 13 ∧ c = r + 26 ∧ d = r + 39 := by omega
    unfold setsAt
    obtain ⟨rfl, rfl, rfl, rfl⟩ := this
    simp
  | [], h2, _, _, _ => simp at h2
  | [_], h2, _, _, _ => simp at h2
  | [_, _], h2, _, _, _ => simp at h2
  | _ :: _ :: _ :: _ :: _ :: _, h2, _, _, _ => simp at h2; omega
theorem run_mem {x : List Int} (h : isRunMeld x = true) (ha : Asc x) : x ∈ allMelds := by
  unfold isRunMeld at h
  rw [sortedI_self ha] at h
  simp only [Bool.and_eq_true, Bool.not_eq_true', decide_eq_false_iff_not] at h
  obtain ⟨⟨h1, h2⟩, h3⟩ := h
  have hc := (isHand_iff.1 h1).1
  have hl : 3 ≤ x.length := by omega
  have h0 : x.getD 0 0 = x[0] := getD_lt _ (by omega)
  unfold runB at h3
  rw [List.all_eq_true, h0] at h3
  have each : ∀ i (hi : i < x.length), suitOf x[i] = suitOf x[0] ∧ x[i] = x[0] + (i : Int) := fun i hi => by
    have := h3 (x[i], i) (by rw [List.mem_zipIdx_iff_getElem?]; simp [hi])
    simpa using this
  have e0 := suit_div (hc x[0] (List.getElem_mem _))
  have el := suit_div (hc x[x.length - 1] (List.getElem_mem _))
  obtain ⟨es, ee⟩ := each (x.length - 1) (by omega)
  obtain ⟨c, hcn⟩ : ∃ c : Nat, (c : Int) = x[0] := ⟨x[0].toNat, by omega⟩
  have hx : x = runOf (c : Int) x.length := by
    apply List.ext_getElem
    · simp [runOf]
    · intro i h1 h2
      have e : (runOf (c : Int) x.length)[i] = (c : Int) + (i : Int) := by simp [runOf]
      rw [(each i h1).2, e, hcn]
  have hm : x.length - 3 < 11 - c % 13 := by omega
  rw [hx]
  refine List.mem_append_right _ (List.mem_flatMap.2 ⟨c, List.mem_range.2 (by omega), ?_⟩)
  unfold runsAt
  refine List.mem_map.2 ⟨x.length - 3, List.mem_range.2 hm, ?_⟩
  rw [show x.length - 3 + 3 = x.length by omega]
/-- How many melds a hand has. -/
def meldNum (l : List Int) : Nat := (allMelds.map fun m => (m.all fun c => hasCard l c).toNat).sum
theorem meldNum_parts {s : List Int} (hs : Asc s) : cntN (fun x => (isMeld x).toNat) s = meldNum s := by
  have e : cntN (fun x => (isMeld x).toNat) s = cntN (fun x => (allMelds.map (eqN x)).sum) s := cntN_congr s fun x hx => by
    rw [ndB_sum allMelds_nd]
    congr 1
    have ax : Asc x := hs.sublist hx
    rw [Bool.eq_iff_iff, List.any_eq_true]
    constructor
    · intro h
      refine ⟨x, ?_, by simp⟩
      unfold isMeld at h
      rcases (Bool.or_eq_true _ _).mp h with h | h
      · exact set_mem h ax
      · exact run_mem h ax
    · rintro ⟨y, hy, e⟩
      obtain rfl := eq_of_beq e
      exact List.all_eq_true.1 allMelds_ok x hy
  rw [e, cntN_sum]
  unfold meldNum
  congr 1
  refine List.map_congr_left fun m hm => ?_
  exact cntN_eq s m hs (ascB_asc (List.all_eq_true.1 allMelds_asc m hm))
theorem hasCard_perm {l l' : List Int} (h : l.Perm l') (c : Int) : hasCard l c = hasCard l' c := by
  rw [Bool.eq_iff_iff, hasCard_iff, hasCard_iff, h.mem_iff]
theorem meldNum_perm {l l' : List Int} (h : l.Perm l') : meldNum l = meldNum l' := by
  unfold meldNum
  congr 1
  refine List.map_congr_left fun m _ => ?_
  congr 1
  congr 1
  funext c
  exact hasCard_perm h c
/-! ### By ranks, by first cards -/
def setNum (a b c d : Bool) : Nat := (a && b && c && d).toNat + (a && b && c).toNat + (a && b && d).toNat + (a && c && d).toNat + (b && c && d).toNat
def runNum (h : Int → Bool) (c : Nat) : Nat := ((List.range (11 - c % 13)).map fun (j : Nat) => ((List.range (j + 3)).all fun (i : Nat) => h ((c : Int) + (i : Int))).toNat).sum
theorem flatMap_sum {α : Type} (f : α → List (List Int)) (g : List Int → Nat) : ∀ l : List α, ((l.flatMap f).map g).sum = (l.map fun a => ((f a).map g).sum).sum
  | [] => rfl
  | a :: l => by rw [List.flatMap_cons, List.map_append, List.sum_append, flatMap_sum f g l, List.map_cons, List.sum_cons]
theorem meldNum_by (l : List Int) : meldNum l = ((List.range 13).map fun r : Nat => setNum (hasCard l (r : Int)) (hasCard l ((r : Int) + 13)) (hasCard l ((r : Int) + 26)) (hasCard l ((r : Int) + 39))).sum + ((List.range 52).map fun c => runNum (hasCard l) c).sum := by
  have e1 : ∀ r : Nat, ((setsAt (r : Int)).map fun m => (m.all fun c => hasCard l c).toNat).sum = setNum (hasCard l (r : Int)) (hasCard l ((r : Int) + 13)) (hasCard l ((r : Int) + 26)) (hasCard l ((r : Int) + 39)) := fun r => by
    simp only [setsAt, List.map_cons, List.map_nil, List.sum_cons, List.sum_nil, List.all_cons, List.all_nil, Bool.and_true]
    generalize hasCard l (r : Int) = a
    generalize hasCard l ((r : Int) + 13) = b
    generalize hasCard l ((r : Int) + 26) = c
    generalize hasCard l ((r : Int) + 39) = d
    cases a <;> cases b <;> cases c <;> cases d <;> rfl
  have e2 : ∀ c : Nat, ((runsAt c).map fun m => (m.all fun c => hasCard l c).toNat).sum = runNum (hasCard l) c := fun c => by
    unfold runsAt runNum
    rw [List.map_map]
    have : ((fun m : List Int => (m.all fun c => hasCard l c).toNat) ∘ fun (j : Nat) => runOf (c : Int) (j + 3)) = fun (j : Nat) => ((List.range (j + 3)).all fun (i : Nat) => hasCard l ((c : Int) + (i : Int))).toNat := by
      funext j
      simp only [Function.comp_apply, runOf, List.all_map]
      rfl
    rw [this]
  have e3 : meldNum l = (((List.range 13).flatMap fun (r : Nat) => setsAt (r : Int)).map fun m => (m.all fun c => hasCard l c).toNat).sum + (((List.range 52).flatMap runsAt).map fun m => (m.all fun c => hasCard l c).toNat).sum := by
    show ((((List.range 13).flatMap fun (r : Nat) => setsAt (r : Int)) ++ (List.range 52).flatMap runsAt).map fun m => (m.all fun c => hasCard l c).toNat).sum = _
    rw [List.map_append, List.sum_append]
  rw [e3, flatMap_sum, flatMap_sum, funext e1, funext e2]
end Go.Proofs.YtfbafmeeejmgoaaGreat
