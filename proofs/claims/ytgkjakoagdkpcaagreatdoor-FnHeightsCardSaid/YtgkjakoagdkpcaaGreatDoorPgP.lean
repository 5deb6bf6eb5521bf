
/- Statements in blocks, and their order: plain Lean, no program in sight. No condition. -/
import Derived.Test.YtgkjakoagdkpcaaGreatDoorKit
set_option linter.unusedSimpArgs false
set_option linter.unusedVariables false
namespace Go.Proofs.YtgkjakoagdkpcaaGreatDoor

/-- the two blocks within each statement -/
abbrev Kids := List (List Nat × List Nat)
def kid (f : Kids) (k : Nat) : List Nat × List Nat := f.getD k ([], [])
/-- the statements of a block, each followed by those in it -/
def ordN (f : Kids) : Nat → List Nat → List Nat
  | 0, _ => []
  | d + 1, b => b.flatMap fun n => n :: (ordN f d (kid f n).1 ++ ordN f d (kid f n).2)
def ct (f : Kids) (m k : Nat) : Nat := (kid f k).1.count m + (kid f k).2.count m
/-- the blocks hold later statements alone -/
def later (f : Kids) : Prop := ∀ k, k < f.length → ∀ m, m ∈ (kid f k).1 ++ (kid f k).2 → k < m ∧ m < f.length

def sumTo (n : Nat) (g : Nat → Nat) : Nat := match n with
  | 0 => 0
  | n + 1 => sumTo n g + g n
theorem sumTo_congr {n : Nat} {g h : Nat → Nat} (e : ∀ k, k < n → g k = h k) : sumTo n g = sumTo n h := by
  induction n with
  | zero => rfl
  | succ n ih => simp only [sumTo]; rw [ih (fun k hk => e k (by omega)), e n (by omega)]
theorem sumTo_add (n : Nat) (g h : Nat → Nat) : sumTo n (fun k => g k + h k) = sumTo n g + sumTo n h := by
  induction n with
  | zero => rfl
  | succ n ih => simp only [sumTo]; rw [ih]; omega
theorem sumTo_zero (n : Nat) : sumTo n (fun _ => 0) = 0 := by
  induction n with
  | zero => rfl
  | succ n ih => simp only [sumTo]; rw [ih]
theorem sumTo_one (n x : Nat) (g : Nat → Nat) (h : x < n) : sumTo n (fun k => (if x = k then 1 else 0) * g k) = g x := by
  induction n with
  | zero => omega
  | succ n ih =>
    simp only [sumTo]
    by_cases e : x = n
    · subst e
      rw [if_pos rfl, sumTo_congr (h := fun _ => 0) (fun k hk => by rw [if_neg (by omega)]; omega), sumTo_zero]; omega
    · rw [if_neg e, ih (by omega)]; omega
theorem sumTo_swap (n m : Nat) (g : Nat → Nat → Nat) : sumTo n (fun i => sumTo m (g i)) = sumTo m (fun j => sumTo n (fun i => g i j)) := by
  induction n with
  | zero => simp only [sumTo]; rw [sumTo_zero]
  | succ n ih => simp only [sumTo]; rw [ih, ← sumTo_add]
theorem sumTo_const (n : Nat) (g : Nat → Nat) (h : ∀ k, k < n → g k = 1) : sumTo n g = n := by
  induction n with
  | zero => rfl
  | succ n ih => simp only [sumTo]; rw [ih (fun k hk => h k (by omega)), h n (by omega)]
theorem count_total (n : Nat) : ∀ l : List Nat, (∀ x ∈ l, x < n) → sumTo n (fun m => l.count m) = l.length := by
  intro l
  induction l with
  | nil => intro _; simp [sumTo_zero]
  | cons a l ih =>
    intro h
    rw [sumTo_congr (h := fun m => l.count m + (if a = m then 1 else 0) * 1) (fun k hk => by rw [List.count_cons]; by_cases e : a = k <;> simp [e])]
    rw [sumTo_add, ih (fun x hx => h x (by simp [hx])), sumTo_one n a (fun _ => 1) (h a (by simp))]
    simp

theorem ord_cons (f : Kids) (d n : Nat) (b : List Nat) : ordN f (d + 1) (n :: b) = n :: (ordN f d (kid f n).1 ++ ordN f d (kid f n).2) ++ ordN f (d + 1) b := by simp [ordN]
theorem ord_nil (f : Kids) (d : Nat) : ordN f d [] = [] := by cases d <;> simp [ordN]
theorem count_app {a b : List Nat} {k : Nat} : (a ++ b).count k = a.count k + b.count k := List.count_append
theorem count_ord (f : Kids) (h : later f) (m : Nat) : ∀ (d : Nat) (b : List Nat), (∀ x ∈ b, f.length ≤ x + d ∧ x < f.length) →
    (ordN f d b).count m = b.count m + sumTo f.length (fun k => (ordN f d b).count k * ct f m k) := by
  intro d
  induction d with
  | zero =>
    intro b hb
    cases b with
    | nil => simp [ordN, sumTo_zero]
    | cons a b => have := hb a (by simp); omega
  | succ d ih =>
    intro b
    induction b with
    | nil => intro _; simp [ord_nil, sumTo_zero]
    | cons n b ihb =>
      intro hb
      obtain ⟨hn1, hn2⟩ := hb n (by simp)
      have hT : ∀ x ∈ (kid f n).1, f.length ≤ x + d ∧ x < f.length := fun x hx => by have := h n hn2 x (by simp [hx]); omega
      have hE : ∀ x ∈ (kid f n).2, f.length ≤ x + d ∧ x < f.length := fun x hx => by have := h n hn2 x (by simp [hx]); omega
      have iT := ih _ hT
      have iE := ih _ hE
      have ib := ihb (fun x hx => hb x (by simp [hx]))
      rw [ord_cons]
      have e : sumTo f.length (fun k => (n :: (ordN f d (kid f n).1 ++ ordN f d (kid f n).2) ++ ordN f (d + 1) b).count k * ct f m k) =
          ct f m n + (sumTo f.length (fun k => (ordN f d (kid f n).1).count k * ct f m k) + (sumTo f.length (fun k => (ordN f d (kid f n).2).count k * ct f m k) + sumTo f.length (fun k => (ordN f (d + 1) b).count k * ct f m k))) := by
        rw [← sumTo_one f.length n (ct f m) hn2, ← sumTo_add, ← sumTo_add, ← sumTo_add]
        refine sumTo_congr (fun k _ => ?_)
        rw [List.cons_append, List.count_cons, count_app, count_app]
        by_cases ek : n = k
        · subst ek; simp; rw [Nat.add_mul, Nat.add_mul, Nat.add_mul, Nat.one_mul]; omega
        · have : (n == k) = false := by simp [ek]
          rw [this, if_neg ek]; simp only [Bool.false_eq_true, if_false, Nat.zero_mul, Nat.add_zero, Nat.zero_add]; rw [Nat.add_mul, Nat.add_mul]; omega
      rw [e, List.cons_append, List.count_cons, count_app, count_app, List.count_cons, iT, iE, ib]
      have : ct f m n = (kid f n).1.count m + (kid f n).2.count m := rfl
      omega
theorem count_range (n k : Nat) : (List.range n).count k = if k < n then 1 else 0 := by
  induction n with
  | zero => simp
  | succ n ih =>
    rw [List.range_succ, count_app, ih, List.count_cons]
    by_cases e : n = k
    · subst e; simp
    · have : (n == k) = false := by simp [e]
      rw [this]; simp; by_cases h : k < n
      · rw [if_pos h, if_pos (by omega)]
      · rw [if_neg h, if_neg (by omega)]
/-- each statement stands just once -/
def onceB (f : Kids) (body : List Nat) : Prop := ∀ m, m < f.length → body.count m + sumTo f.length (ct f m) = 1
theorem once_of_ord {f : Kids} (h : later f) {body : List Nat} (hb : ∀ x ∈ body, x < f.length) {d : Nat} (hd : f.length ≤ d) (ho : ordN f d body = List.range f.length) : onceB f body := by
  intro m hm
  have := count_ord f h m d body (fun x hx => ⟨by omega, hb x hx⟩)
  rw [ho, count_range, if_pos hm] at this
  rw [sumTo_congr (h := ct f m) (fun k hk => by rw [count_range, if_pos hk, Nat.one_mul])] at this
  omega
theorem ct_zero {f : Kids} (h : later f) {m k : Nat} (hk : k < f.length) (hm : m ≤ k) : ct f m k = 0 := by
  unfold ct
  rw [List.count_eq_zero_of_not_mem (fun hx => by have := h k hk m (by simp [hx]); omega), List.count_eq_zero_of_not_mem (fun hx => by have := h k hk m (by simp [hx]); omega)]
theorem count_of_once {f : Kids} (h : later f) {body : List Nat} (hb : ∀ x ∈ body, x < f.length) {d : Nat} (hd : f.length ≤ d) (ho : onceB f body) : ∀ m, m < f.length → (ordN f d body).count m = 1 := by
  intro m
  induction m using Nat.strongRecOn with
  | _ m ih =>
    intro hm
    have := count_ord f h m d body (fun x hx => ⟨by omega, hb x hx⟩)
    rw [this, sumTo_congr (h := ct f m) (fun k hk => ?_)]
    · exact ho m hm
    · by_cases hkm : k < m
      · rw [ih k hkm hk, Nat.one_mul]
      · rw [ct_zero h hk (by omega), Nat.mul_zero]
theorem ord_lt {f : Kids} (h : later f) : ∀ (d : Nat) (b : List Nat), (∀ x ∈ b, x < f.length) → ∀ x ∈ ordN f d b, x < f.length := by
  intro d
  induction d with
  | zero => intro b _ x hx; simp [ordN] at hx
  | succ d ih =>
    intro b hb x hx
    simp only [ordN, List.mem_flatMap, List.mem_cons, List.mem_append] at hx
    obtain ⟨n, hn, hx⟩ := hx
    have hnl := hb n hn
    rcases hx with rfl | hx | hx
    · exact hnl
    · exact ih _ (fun y hy => (h n hnl y (by simp [hy])).2) x hx
    · exact ih _ (fun y hy => (h n hnl y (by simp [hy])).2) x hx
theorem ord_length {f : Kids} (h : later f) {body : List Nat} (hb : ∀ x ∈ body, x < f.length) {d : Nat} (hd : f.length ≤ d) (ho : onceB f body) : (ordN f d body).length = f.length := by
  rw [← count_total f.length _ (ord_lt h d body hb)]
  exact sumTo_const _ _ (count_of_once h hb hd ho)
theorem uses_of_once {f : Kids} (h : later f) {body : List Nat} (hb : ∀ x ∈ body, x < f.length) (ho : onceB f body) : body.length + sumTo f.length (fun k => (kid f k).1.length + (kid f k).2.length) = f.length := by
  have h1 := sumTo_const f.length _ ho
  rw [sumTo_add, count_total _ _ hb, sumTo_swap] at h1
  rw [sumTo_congr (h := fun k => (kid f k).1.length + (kid f k).2.length) (fun k hk => ?_)] at h1
  · exact h1
  · show sumTo f.length (fun m => (kid f k).1.count m + (kid f k).2.count m) = _
    rw [sumTo_add, count_total _ _ (fun x hx => (h k hk x (by simp [hx])).2), count_total _ _ (fun x hx => (h k hk x (by simp [hx])).2)]
theorem sub_ord (f : Kids) (d : Nat) : ∀ b : List Nat, b.Sublist (ordN f (d + 1) b) := by
  intro b
  induction b with
  | nil => simp
  | cons n b ih => rw [ord_cons, List.cons_append]; exact (ih.trans (List.sublist_append_right _ _)).cons_cons n
theorem kid_sub {f : Kids} (h : later f) (k : Nat) : ∀ (d : Nat) (b : List Nat), (∀ x ∈ b, f.length ≤ x + d ∧ x < f.length) → k ∈ ordN f d b → (kid f k).1.Sublist (ordN f d b) ∧ (kid f k).2.Sublist (ordN f d b) := by
  intro d
  induction d with
  | zero => intro b _ hk; simp [ordN] at hk
  | succ d ih =>
    intro b
    induction b with
    | nil => intro _ hk; simp [ord_nil] at hk
    | cons n b ihb =>
      intro hb hk
      obtain ⟨hn1, hn2⟩ := hb n (by simp)
      have hT : ∀ x ∈ (kid f n).1, f.length ≤ x + d ∧ x < f.length := fun x hx => by have := h n hn2 x (by simp [hx]); omega
      have hE : ∀ x ∈ (kid f n).2, f.length ≤ x + d ∧ x < f.length := fun x hx => by have := h n hn2 x (by simp [hx]); omega
      have sub : ∀ l : List Nat, (∀ x ∈ l, f.length ≤ x + d ∧ x < f.length) → l.Sublist (ordN f d l) := fun l hl => by
        cases d with
        | zero => cases l with
          | nil => simp
          | cons a l => have := hl a (by simp); omega
        | succ d => exact sub_ord f d l
      have sT : (ordN f d (kid f n).1).Sublist (ordN f (d + 1) (n :: b)) := by
        rw [ord_cons]; exact ((List.sublist_append_left _ _).trans (List.sublist_cons_self _ _)).trans (List.sublist_append_left _ _)
      have sE : (ordN f d (kid f n).2).Sublist (ordN f (d + 1) (n :: b)) := by
        rw [ord_cons]; exact ((List.sublist_append_right _ _).trans (List.sublist_cons_self _ _)).trans (List.sublist_append_left _ _)
      have sb : (ordN f (d + 1) b).Sublist (ordN f (d + 1) (n :: b)) := by rw [ord_cons]; exact List.sublist_append_right _ _
      rw [ord_cons, List.mem_append, List.mem_cons, List.mem_append] at hk
      rcases hk with (rfl | hk | hk) | hk
      · exact ⟨(sub _ hT).trans sT, (sub _ hE).trans sE⟩
      · obtain ⟨a1, a2⟩ := ih _ hT hk; exact ⟨a1.trans sT, a2.trans sT⟩
      · obtain ⟨a1, a2⟩ := ih _ hE hk; exact ⟨a1.trans sE, a2.trans sE⟩
      · obtain ⟨a1, a2⟩ := ihb (fun x hx => hb x (by simp [hx])) hk; exact ⟨a1.trans sb, a2.trans sb⟩
/-- the order is each statement in its place: then the blocks are rising -/
theorem rising_of_ord {f : Kids} (h : later f) {body : List Nat} (hb : ∀ x ∈ body, x < f.length) {d : Nat} (hd : f.length ≤ d) (h0 : 0 < d) (ho : ordN f d body = List.range f.length) :
    body.Pairwise (· < ·) ∧ ∀ k, k < f.length → (kid f k).1.Pairwise (· < ·) ∧ (kid f k).2.Pairwise (· < ·) := by
  have hr : (List.range f.length).Pairwise (· < ·) := List.pairwise_lt_range
  rw [← ho] at hr
  obtain ⟨e, rfl⟩ : ∃ e, d = e + 1 := ⟨d - 1, by omega⟩
  refine ⟨hr.sublist (sub_ord f e body), fun k hk => ?_⟩
  obtain ⟨s1, s2⟩ := kid_sub h k (e + 1) body (fun x hx => ⟨by omega, hb x hx⟩) (by rw [ho]; simpa using hk)
  exact ⟨hr.sublist s1, hr.sublist s2⟩
theorem ord_of_ident {f : Kids} (h : later f) {body : List Nat} (hb : ∀ x ∈ body, x < f.length) {d : Nat} (hd : f.length ≤ d) (ho : onceB f body) (hi : ∀ i (hi : i < (ordN f d body).length), (ordN f d body)[i] = i) : ordN f d body = List.range f.length := by
  apply List.ext_getElem
  · rw [ord_length h hb hd ho, List.length_range]
  · intro i h1 h2
    rw [hi i h1, List.getElem_range]
/-- more steps than there are statements change nothing -/
theorem ord_more {f : Kids} (h : later f) : ∀ (d : Nat) (b : List Nat), (∀ x ∈ b, f.length ≤ x + d ∧ x < f.length) → ∀ j, ordN f (d + j) b = ordN f d b := by
  intro d
  induction d with
  | zero =>
    intro b hb j
    cases b with
    | nil => rw [ord_nil, ord_nil]
    | cons a b => have := hb a (by simp); omega
  | succ d ih =>
    intro b
    induction b with
    | nil => intro _ j; rw [ord_nil, ord_nil]
    | cons n b ihb =>
      intro hb j
      obtain ⟨hn1, hn2⟩ := hb n (by simp)
      rw [show d + 1 + j = (d + j) + 1 by omega, ord_cons, ord_cons, ih _ (fun x hx => by have := h n hn2 x (by simp [hx]); omega), ih _ (fun x hx => by have := h n hn2 x (by simp [hx]); omega)]
      rw [show (d + j) + 1 = d + 1 + j by omega, ihb (fun x hx => hb x (by simp [hx]))]
end Go.Proofs.YtgkjakoagdkpcaaGreatDoor
