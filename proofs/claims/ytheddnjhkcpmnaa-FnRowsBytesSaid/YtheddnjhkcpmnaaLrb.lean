
/- laws.FnRowsBytes: it answers true. No condition. -/
import Derived.Test.YtheddnjhkcpmnaaRrS
import Derived.Test.YtheddnjhkcpmnaaLrs
import Derived.Test.YtheddnjhkcpmnaaOpen
import Derived.Test.YtheddnjhkcpmnaaRrP
import Derived.Test.YtheddnjhkcpmnaaRbP
import Derived.Test.YtheddnjhkcpmnaaFlP
import Derived.Test.YtheddnjhkcpmnaaRo2
import Derived.Test.YtheddnjhkcpmnaaRb
import Derived.Test.YtheddnjhkcpmnaaDr3
set_option linter.unusedSimpArgs false
set_option linter.unusedVariables false
set_option maxRecDepth 100000
namespace Go.Proofs.Ytheddnjhkcpmnaa
open Go.RowKit

set_option maxHeartbeats 1600000 in
theorem spec_DrawRowsBytes (v : Value) (zs : List Int) (w : World) (hr : Rd w w.heap.size v zs.length (icells .u8 zs)) (hz : ∀ z ∈ zs, 0 ≤ z ∧ z ≤ 255) :
    Calls Try.prog 55 #[v] w (DRowsP w) := by
  have HD := hide (spec_DrawGoodRows v zs w hr hz)
  obtain ⟨A, c, rfl, _⟩ := id hr
  clear hr
  go_enter Try.func55, Try.ntmps55
  go_wp2_with (go_at_call 96; refine HD.out.mono ?_; rintro e w1 ⟨rA, rc, rl, many, rfl, hrl, hm, ho, hb⟩; have Ho := hide ho; have Hb := hide hb; clear ho hb)
  go_ret2
  exact ⟨rA, rc, rl, many, rfl, hrl, hm, Ho.out, Hb.out⟩
theorem rbS_size (l : List R3) (many : Int) : (rbS l many).size ≤ 2000 := by
  unfold rbS
  split
  · rename_i h; rw [mk_sizeD]; exact h.2
  · exact Nat.zero_le _
theorem cur_ofR {g : Nat} {A : Option Addr} {c : Nat} {zs : List Int} {K : Nat} {w : World} (hc : Cur g A c zs K w) (hK : K ≤ 3000000000000000000) :
    Calls Try.prog 106 #[.pointer (some ⟨g, 0, none⟩), .slice (some ⟨w.heap.size, 0, none⟩) 2 2] (w.alloc (.cells #[.string ⟨#[0]⟩, .string ⟨#[128]⟩] 9)) (fun e w' => ∃ s : ByteArray, e = .returned (.string s) ∧ s.size ≤ 1 ∧ Cur g A c zs (K + 2) w' ∧ Dw g w w') :=
  (cur_ofN [⟨#[0]⟩, ⟨#[128]⟩] hc hK (by decide) (by decide)).mono fun e w' ⟨s, h1, h2, h3, h4⟩ => ⟨s, h1, by
    simp only [List.mem_cons, List.not_mem_nil, or_false] at h2
    rcases h2 with rfl | rfl <;> decide, h3, h4⟩
def DRrP (w : World) (e : Ending) (w' : World) : Prop := ∃ (s : ByteArray) (n : Int), e = .returned (.tuple #[.string s, .int .i64 n]) ∧ s.size ≤ 3000 ∧ (0 ≤ n ∧ n ≤ 301) ∧ Below w.heap.size w w'
set_option maxHeartbeats 3200000 in
theorem spec_DrawReadRows (v : Value) (zs : List Int) (w : World) (hr : Rd w w.heap.size v zs.length (icells .u8 zs)) (hz : ∀ z ∈ zs, 0 ≤ z ∧ z ≤ 255) :
    Calls Try.prog 59 #[v] w (DRrP w) := by
  obtain ⟨A, c, rfl, hc⟩ := cur_start hr hz
  have Hc := hide hc
  clear hr hc
  go_enter Try.func59, Try.ntmps59
  go_wp2_with (first
    | (go_at_call 101; refine (cur_rows w.heap.size A c zs 0 _ Hc.out (by rw [World.size_alloc]) (by omega)).mono ?_; rintro e w1 ⟨rA, rc, rl, many, rfl, hrl, ⟨hm1, hm2⟩, ho, hc1, hd⟩; have Hc := hide hc1; have Ho := hide (Rd.of_own ho); have Hb := hide (dw_below hd); clear ho hd hc1)
    | (go_at_call 57; refine (spec_RowsBytes _ rl many _ Ho.out (by omega)).mono ?_; rintro e w2 ⟨rfl, hb⟩; have hsz := rbS_size rl many; have Hb := hide (Hb.out.trans (hb.mono Hb.out.size)); have Hc := hide (Hc.out.below hb); generalize rbS rl many = S at *; generalize rbB rl many = B at *; clear hb)
    | (go_at_call_of 70 (Value.int .i64 5); refine (cur_pick _ _ _ _ _ _ _ Hc.out (by decide) (by decide)).mono ?_; rintro e w3 ⟨y, rfl, ⟨hy1, hy2⟩, hc1, hd1⟩; have Hb := hide (Hb.out.trans (hd1.below (Nat.le_refl _) Hb.out.size)); have Hc := hide hc1; clear hc1 hd1 hy2)
    | (go_at_call 76; refine (cur_spoilt _ _ _ _ _ _ S ⟨#[0, 1, 127, 128]⟩ Hc.out (by decide) (by omega) (by decide) (by decide)).mono ?_; rintro e w4 ⟨S2, rfl, hs2, hc1, hd1⟩; have Hb := hide (Hb.out.trans (hd1.below (Nat.le_refl _) Hb.out.size)); have Hc := hide hc1; clear hc1 hd1)
    | (go_at_call 106; refine (cur_ofR Hc.out (by decide)).mono ?_; rintro e w5 ⟨S3, rfl, hs3, hc1, hd1⟩; have Hb := hide (Hb.out.trans (hd1.below (Nat.le_refl _) Hb.out.size)); have Hc := hide hc1; clear hc1 hd1)
    | (go_at_call 70; refine (cur_pick _ _ _ _ _ _ _ Hc.out (by decide) (by omega)).mono ?_; rintro e w6 ⟨k, rfl, hk, hc1, hd1⟩; obtain ⟨k, rfl, hk2⟩ := pick_nat (n := S.size + 1) hk (by omega); have hkI : (k : Int) ≤ (S.size : Int) := Int.ofNat_le.2 (Nat.le_of_lt_succ hk2); have hk0 : (0 : Int) ≤ (k : Int) := Int.natCast_nonneg k; have Hb := hide (Hb.out.trans (hd1.below (Nat.le_refl _) Hb.out.size)); have Hc := hide hc1; clear hc1 hd1 hk))
  all_goals
    go_ret2
    exact ⟨_, _, rfl, by (try simp only [ByteArray.size_append, ByteArray.size_extract]); omega, ⟨hm1, hm2⟩, Hb.out⟩
end Go.Proofs.Ytheddnjhkcpmnaa
set_option linter.unusedSimpArgs false
set_option linter.unusedVariables false
namespace Go.Proofs.Ytheddnjhkcpmnaa

theorem part_cat (s : ByteArray) {i j k : Nat} (h1 : i ≤ j) (h2 : j ≤ k) : part s i j ++ part s j k = part s i k := by
  unfold part
  obtain ⟨a, rfl⟩ : ∃ a, j = i + a := ⟨j - i, by omega⟩
  obtain ⟨b, rfl⟩ : ∃ b, k = i + a + b := ⟨k - (i + a), by omega⟩
  rw [show i + a - i = a by omega, show i + a + b - (i + a) = b by omega, show i + a + b - i = a + b by omega, List.take_add, List.drop_drop]
theorem part_whole (s : ByteArray) : part s 0 s.size = s.data.toList := by
  unfold part
  rw [Nat.sub_zero, List.drop_zero, List.take_of_length_le (by rw [size_eq]; exact Nat.le_refl _)]
theorem tri_mid (pre post : List UInt8) {many x : Int} {r : R3} (hr : rowOk x many r) (hm : many ≤ 300) (hx : 0 ≤ x) (hz : (pre ++ (rowB x r ++ post)).length ≤ 2000) :
    tri ⟨(pre ++ (rowB x r ++ post)).toArray⟩ pre.length = some ((r.f - x).toNat, (r.t - r.f).toNat, r.p - r.t, pre.length + (rowB x r).length) := by
  obtain ⟨r1, r2, r3, r4, r5⟩ := hr
  have e1 : pre ++ (rowB x r ++ post) = pre ++ (leb (r.f - x).toNat ++ (leb (r.t - r.f).toNat ++ (lebs (r.p - r.t) ++ post))) := by unfold rowB; simp only [List.append_assoc]
  have e2 : pre ++ (rowB x r ++ post) = (pre ++ leb (r.f - x).toNat) ++ (leb (r.t - r.f).toNat ++ (lebs (r.p - r.t) ++ post)) := by unfold rowB; simp only [List.append_assoc]
  have e3 : pre ++ (rowB x r ++ post) = (pre ++ leb (r.f - x).toNat ++ leb (r.t - r.f).toNat) ++ (lebs (r.p - r.t) ++ post) := by unfold rowB; simp only [List.append_assoc]
  have a1 := rdU_mid pre (leb (r.t - r.f).toNat ++ (lebs (r.p - r.t) ++ post)) (n := (r.f - x).toNat) (by omega) (by rw [← e1]; exact hz)
  have a2 := rdU_mid (pre ++ leb (r.f - x).toNat) (lebs (r.p - r.t) ++ post) (n := (r.t - r.f).toNat) (by omega) (by rw [← e2]; exact hz)
  have a3 := rdS_mid (n := r.p - r.t) (by omega) (by omega) (pre ++ leb (r.f - x).toNat ++ leb (r.t - r.f).toNat) post (by rw [← e3]; exact hz)
  rw [← e1] at a1; rw [← e2] at a2; rw [← e3] at a3
  simp only [List.length_append] at a2 a3
  have hl : (rowB x r).length = (leb (r.f - x).toNat).length + ((leb (r.t - r.f).toNat).length + (lebs (r.p - r.t)).length) := by unfold rowB; simp only [List.length_append]
  rw [tri_yes (b := pre.length + (leb (r.f - x).toNat).length) (c := pre.length + (leb (r.f - x).toNat).length + (leb (r.t - r.f).toNat).length) (by rw [a1]) (by rw [a1]) (by rw [a2]) (by rw [a2]) (by rw [a3]), a1, a2, a3, hl]
  simp only [Nat.add_assoc]
theorem triI_mid {many : Int} (hm : many ≤ 300) (post : List UInt8) : ∀ (l : List R3) (pre : List UInt8) (x : Int) (acc : List R3), 0 ≤ x → rowsOk many x l = true → rowsOk many 0 (acc ++ l) = true → (pre ++ (rowsBL x l ++ post)).length ≤ 2000 →
    triI ⟨(pre ++ (rowsBL x l ++ post)).toArray⟩ many l.length pre.length x true acc = (acc ++ l, pre.length + (rowsBL x l).length, 0) := by
  intro l
  induction l with
  | nil =>
    intro pre x acc _ _ h _
    rw [List.append_nil] at h
    simp only [List.length_nil, triI, rowsBL, List.append_nil, Nat.add_zero]
    rw [if_pos ⟨trivial, h⟩]
  | cons r l ih =>
    intro pre x acc hx h1 h2 hz
    simp only [rowsOk] at h1
    by_cases hr : rowOk x many r
    · rw [if_pos hr] at h1
      have e1 : pre ++ (rowsBL x (r :: l) ++ post) = pre ++ (rowB x r ++ (rowsBL r.t l ++ post)) := by simp only [rowsBL, List.append_assoc]
      have e2 : pre ++ (rowsBL x (r :: l) ++ post) = (pre ++ rowB x r) ++ (rowsBL r.t l ++ post) := by simp only [rowsBL, List.append_assoc]
      have ht := tri_mid pre (rowsBL r.t l ++ post) hr hm hx (by rw [← e1]; exact hz)
      rw [← e1] at ht
      obtain ⟨r1, r2, r3, r4, r5⟩ := hr
      have hs : smallT (r.f - x).toNat (r.t - r.f).toNat (r.p - r.t) := ⟨by omega, by omega, by omega, by omega⟩
      rw [List.length_cons, triI_small ht hs]
      have q1 : x + ((r.f - x).toNat : Int) = r.f := by omega
      have q2 : r.f + ((r.t - r.f).toNat : Int) = r.t := by omega
      have q3 : r.t + (r.p - r.t) = r.p := by omega
      rw [q1, q2, q3]
      have := ih (pre ++ rowB x r) r.t (acc ++ [r]) (by omega) h1 (by rw [List.append_assoc]; exact h2) (by rw [← e2]; exact hz)
      rw [← e2, List.length_append] at this
      rw [show (⟨r.f, r.t, r.p⟩ : R3) = r from rfl, this]
      simp only [List.append_assoc, List.cons_append, List.nil_append, rowsBL, List.length_append, Nat.add_assoc]
    · rw [if_neg hr] at h1; cases h1
/-- good rows are read back, with or without what stands behind them -/
theorem rr_back {l : List R3} {many : Int} (h : goodRows l many = true) (post : List UInt8) (hz : (rowsB l ++ post).length ≤ 2000) :
    rrI ⟨(rowsB l ++ post).toArray⟩ 0 many = (l, (rowsB l).length, 0) := by
  have hg := h
  unfold goodRows at hg; simp at hg
  obtain ⟨⟨g1, g2⟩, g3, g4⟩ := hg
  have e1 : rowsB l ++ post = [] ++ (leb l.length ++ (rowsBL 0 l ++ post)) := by unfold rowsB; simp only [List.append_assoc, List.nil_append]
  have e2 : rowsB l ++ post = leb l.length ++ (rowsBL 0 l ++ post) := e1
  have a1 := rdU_mid [] (rowsBL 0 l ++ post) (n := l.length) (by omega) (by rw [← e1]; exact hz)
  rw [← e1] at a1
  have a1' : rdU ⟨(rowsB l ++ post).toArray⟩ (0 : Nat) = (l.length, 0 + (leb l.length).length, 0, true) := a1
  unfold rrI
  rw [a1', if_pos ⟨rfl, g3⟩]
  have := triI_mid g2 post l (leb l.length) 0 [] (by omega) g4 (by simpa using g4) (by rw [← e2]; exact hz)
  rw [← e2] at this
  simp only [Nat.zero_add]
  rw [this]
  unfold rowsB
  rw [List.nil_append, List.length_append]
theorem mk_szB (l : List UInt8) : (⟨l.toArray⟩ : ByteArray).size = l.length := by simp [ByteArray.size]
theorem rdRows_back {l : List R3} {many : Int} (h : rbB l many = true) : rdRows (rbS l many) many = (l, 0, true) := by
  have h2 : goodRows l many = true ∧ (rowsB l).length ≤ 2000 := by unfold rbB at h; exact of_decide_eq_true h
  obtain ⟨hg, hz⟩ := h2
  rw [(rb_yes hg hz).1]
  have hb := rr_back hg [] (by rw [List.append_nil]; exact hz)
  rw [List.append_nil] at hb
  have hm : 1 ≤ many ∧ many ≤ 300 := by unfold goodRows at hg; simp at hg; exact hg.1
  unfold rdRows
  rw [if_pos hm, hb]
  unfold fin
  rw [if_neg (by simp), if_neg (by rw [mk_szB]; simp)]
theorem endF_big {s : List UInt8} {a : Int} (h : 2000 < s.length) : endF s a = (0, 1) := by unfold endF; rw [if_neg (by omega)]
/-- with a byte more nothing is read -/
theorem rdRows_more {l : List R3} {many : Int} (h : rbB l many = true) (b : UInt8) :
    (rdRows (rbS l many ++ ⟨#[b]⟩) many).2.2 = false ∧ ((rbS l many).size < 2000 → (rdRows (rbS l many ++ ⟨#[b]⟩) many).2.1 = 4) := by
  have h2 : goodRows l many = true ∧ (rowsB l).length ≤ 2000 := by unfold rbB at h; exact of_decide_eq_true h
  obtain ⟨hg, hz⟩ := h2
  have hm : 1 ≤ many ∧ many ≤ 300 := by unfold goodRows at hg; simp at hg; exact hg.1
  rw [(rb_yes hg hz).1]
  have e : (⟨(rowsB l).toArray⟩ : ByteArray) ++ ⟨#[b]⟩ = ⟨(rowsB l ++ [b]).toArray⟩ := by
    apply ByteArray.ext
    apply Array.toList_inj.1
    simp
  rw [e]
  by_cases h3 : (rowsB l).length < 2000
  · have hb := rr_back hg [b] (by rw [List.length_append]; simp; omega)
    have hr : rdRows ⟨(rowsB l ++ [b]).toArray⟩ many = ([], 4, false) := by
      unfold rdRows
      rw [if_pos hm, hb]
      unfold fin
      rw [if_neg (by simp), if_pos (by rw [mk_szB, List.length_append]; simp)]
    rw [hr]
    exact ⟨rfl, fun _ => rfl⟩
  · have h4 : (rowsB l ++ [b]).length = 2001 := by rw [List.length_append]; simp; omega
    have he : endF (⟨(rowsB l ++ [b]).toArray⟩ : ByteArray).data.toList (0 : Nat) = (0, 1) := endF_big (by show 2000 < (rowsB l ++ [b]).length; omega)
    have hr := rdU_code _ _ he (by decide)
    have hr' : rdRows ⟨(rowsB l ++ [b]).toArray⟩ many = ([], 1, false) := by
      unfold rdRows rrI
      rw [if_pos hm, hr, if_neg (by simp)]
      unfold fin
      rw [if_pos (by simp)]
    rw [hr']
    refine ⟨rfl, fun h5 => ?_⟩
    rw [mk_szB] at h5
    omega
theorem triI_false (s : ByteArray) (many : Int) : ∀ (k a : Nat) (x : Int) (acc : List R3), (triI s many k a x false acc).2.2 ≠ 0 := by
  intro k
  induction k with
  | zero => intro a x acc; simp [triI]
  | succ k ih =>
    intro a x acc
    cases ht : tri s a with
    | none => rw [triI_no ht]; simp
    | some y =>
      obtain ⟨g, l, p, e⟩ := y
      rw [triI_great ht (by simp)]
      exact ih _ _ _
theorem tri_inv {s : ByteArray} {a g l e : Nat} {p : Int} (h : tri s a = some (g, l, p, e)) : a < e ∧ e ≤ s.size ∧ part s a e = leb g ++ (leb l ++ lebs p) := by
  unfold tri at h
  by_cases h1 : (rdU s a).2.2.2 = true
  · rw [if_pos h1] at h
    by_cases h2 : (rdU s (rdU s a).2.1).2.2.2 = true
    · rw [if_pos h2] at h
      by_cases h3 : (rdS s (rdU s (rdU s a).2.1).2.1).2.2.2 = true
      · rw [if_pos h3] at h
        obtain ⟨n1, m1, q1, q2, q3, _, q4, _, _, q5⟩ := rdU_back s a h1
        obtain ⟨n2, m2, u1, u2, u3, _, u4, _, _, u5⟩ := rdU_back s _ h2
        obtain ⟨n3, m3, v1, v2, v3, _, v4, _, _, v5⟩ := rdS_back s _ h3
        simp only [Option.some.injEq, Prod.mk.injEq] at h
        obtain ⟨k1, k2, k3, k4⟩ := h
        rw [k1] at q5; rw [k2] at u5; rw [k3] at v5
        have w1 : a = n1 := by omega
        have w2 : m1 = n2 := by omega
        have w3 : m2 = n3 := by omega
        have w4 : m3 = e := by omega
        subst w1; subst w2; subst w3; subst w4
        refine ⟨by omega, v3, ?_⟩
        rw [q5, u5, v5, part_cat s (by omega) (by omega), part_cat s (by omega) (by omega)]
      · rw [if_neg h3] at h; cases h
    · rw [if_neg h2] at h; cases h
  · rw [if_neg h1] at h; cases h
theorem triI_inv (s : ByteArray) (many : Int) : ∀ (k a : Nat) (x : Int) (acc L : List R3) (e : Nat), a ≤ s.size → triI s many k a x true acc = (L, e, 0) →
    ∃ rest, L = acc ++ rest ∧ rest.length = k ∧ a ≤ e ∧ e ≤ s.size ∧ part s a e = rowsBL x rest ∧ rowsOk many 0 L = true := by
  intro k
  induction k with
  | zero =>
    intro a x acc L e ha h
    simp only [triI] at h
    by_cases g : True ∧ rowsOk many 0 acc = true
    · rw [if_pos g] at h
      simp only [Prod.mk.injEq, and_true] at h
      obtain ⟨rfl, rfl⟩ := h
      exact ⟨[], by simp, rfl, Nat.le_refl _, ha, part_nil s _, g.2⟩
    · rw [if_neg g] at h
      simp at h
  | succ k ih =>
    intro a x acc L e ha h
    cases ht : tri s a with
    | none => rw [triI_no ht] at h; simp at h
    | some y =>
      obtain ⟨g, l, p, e1⟩ := y
      obtain ⟨t1, t2, t3⟩ := tri_inv ht
      by_cases hs : smallT g l p
      · rw [triI_small ht hs] at h
        obtain ⟨rest, r1, r2, r3, r4, r5, r6⟩ := ih _ _ _ _ _ t2 h
        refine ⟨⟨x + g, x + g + l, x + g + l + p⟩ :: rest, by rw [r1]; simp, by simp [r2], by omega, r4, ?_, r6⟩
        rw [← part_cat s (show a ≤ e1 by omega) r3, t3, r5]
        have q1 : (x + (g : Int) - x).toNat = g := by omega
        have q2 : (x + (g : Int) + l - (x + g)).toNat = l := by omega
        have q3 : x + (g : Int) + l + p - (x + g + l) = p := by omega
        simp only [rowsBL, rowB, q1, q2, q3]
      · rw [triI_great ht (fun q => hs q.2)] at h
        exact absurd (by rw [h]) (triI_false s many k e1 x acc)
/-- what is read is what its rows are written as -/
theorem rdRows_inv {s : ByteArray} {many : Int} (h : (rdRows s many).2.2 = true) : rbS (rdRows s many).1 many = s ∧ rbB (rdRows s many).1 many = true := by
  have hall : ∃ L, rdRows s many = (L, 0, true) ∧ goodRows L many = true ∧ rowsB L = s.data.toList ∧ s.size ≤ 2000 := by
    unfold rdRows at h ⊢
    by_cases hm : 1 ≤ many ∧ many ≤ 300
    · rw [if_pos hm] at h ⊢
      rcases hr : rrI s 0 many with ⟨L, e, c⟩
      rw [hr] at h
      unfold fin at h ⊢
      by_cases hc : c = 0
      · subst hc
        rw [if_neg (by simp)] at h ⊢
        by_cases he : e < s.size
        · dsimp only at h; rw [if_pos he] at h; cases h
        · dsimp only; rw [if_neg he]
          unfold rrI at hr
          by_cases hu : (rdU s (0 : Nat)).2.2.2 = true ∧ (rdU s (0 : Nat)).1 ≤ 300
          · rw [if_pos hu] at hr
            obtain ⟨n1, m1, q1, q2, q3, qz, q4, _, _, q5⟩ := rdU_back s (0 : Nat) hu.1
            have hn : n1 = 0 := by omega
            subst hn
            obtain ⟨rest, r1, r2, r3, r4, r5, r6⟩ := triI_inv s many _ _ _ _ _ _ (by omega) hr
            rw [List.nil_append] at r1
            subst r1
            have hm1 : (rdU s (0 : Nat)).2.1 = m1 := by omega
            rw [hm1] at r3 r5
            have hes : e = s.size := by omega
            subst hes
            refine ⟨L, rfl, by rw [goodRows_eq, decide_eq_true hm, r6]; rfl, ?_, qz⟩
            unfold rowsB
            rw [r2, ← r5, q5, part_cat s (by omega) r3, part_whole]
          · rw [if_neg hu] at hr; simp at hr
      · dsimp only at h; rw [if_pos hc] at h; cases h
    · rw [if_neg hm] at h; cases h
  obtain ⟨L, h1, h2, h3, h4⟩ := hall
  rw [h1]
  have h5 : (rowsB L).length ≤ 2000 := by rw [h3, size_eq]; exact h4
  obtain ⟨e1, e2⟩ := rb_yes h2 h5
  exact ⟨by rw [e1, h3], e2⟩
end Go.Proofs.Ytheddnjhkcpmnaa
set_option linter.unusedSimpArgs false
set_option linter.unusedVariables false
set_option maxRecDepth 100000
namespace Go.Proofs.Ytheddnjhkcpmnaa
open Go.RowKit Go.WideShapes Go.ChangeShapes

theorem more_sz (S : ByteArray) (b : UInt8) : (S ++ ⟨#[b]⟩).size = S.size + 1 := by simp [ByteArray.size_append]; rfl
set_option maxHeartbeats 6400000 in
theorem law_FnRowsBytes (w : World) (v1 : Value) (i1 : IsU8s w v1) (v2 : Value) (i2 : IsU8s w v2) :
    Calls Try.prog 7 #[v1, v2] w fun e w' => e = .returned (.bool true) ∧ Below w.heap.size w w' := by
  obtain ⟨z1, hr1, hz1⟩ := i1
  obtain ⟨z2, hr2, hz2⟩ := i2
  have hy1 : ∀ z ∈ z1, 0 ≤ z ∧ z ≤ 255 := fun z h => bd_u8 (hz1 z h)
  have hy2 : ∀ z ∈ z2, 0 ≤ z ∧ z ≤ 255 := fun z h => bd_u8 (hz2 z h)
  have hd1 := fun W (hW : Below w.heap.size w W) => spec_DrawRowsBytes _ z1 W (hr1.here hW) hy1
  have hd2 := fun W (hW : Below w.heap.size w W) => spec_DrawReadRows _ z2 W (hr2.here hW) hy2
  obtain ⟨A1, c1, rfl, p1, p2, _⟩ := id hr1
  obtain ⟨A2, c2, rfl, p3, p4, _⟩ := id hr2
  have hB := fun W => laws_big A1 A2 c1 c2 z1.length z2.length (by unfold maxLen at p2; omega) (by unfold maxLen at p4; omega) W
  have D1 := Lib.hid hd1; have D2 := Lib.hid hd2
  clear hr1 hr2 hz1 hz2 hy1 hy2 hd1 hd2 p1 p2 p3 p4
  cases hbig : bigB z1.length z2.length
  case true =>
    simp only [hbig] at hB
    have HB := Lib.hid hB
    clear hB hbig D1 D2
    go_enter Try.func7, Try.ntmps7
    go_wp2_with (go_at_call 8; refine (HB.out _).mono ?_; rintro e w1 ⟨rfl, rfl⟩)
    go_ret
    exact ⟨rfl, Below.refl _ _⟩
  simp only [hbig] at hB
  have HB := Lib.hid hB; have Hb := hide (Below.refl w.heap.size w)
  clear hB hbig
  go_enter Try.func7, Try.ntmps7
  go_upto_region 4 with (first
    | (go_at_call 8; refine (HB.out _).mono ?_; rintro e w0 ⟨rfl, h0⟩; rw [h0]; clear h0)
    | (go_at_call 55; refine (D1.out _ Hb.out).mono ?_; rintro e w1 ⟨rA, rc, l, many, rfl, hl5, hm, hr, hb⟩; have Hb := hide hb; have HR := hide hr; clear hr hb))
  have hl9 : l.length ≤ 9223372036854775807 := by omega
  have e1 := fun W (h : Rd W W.heap.size (.slice rA l.length rc) l.length (rcells l)) => impl_RowsBytes _ l many W h hl9
  have e2 := fun W (h : Rd W W.heap.size (.slice rA l.length rc) l.length (rcells l)) => spec_RowsBytes _ l many W h hl9
  have hsz := rbS_size l many
  have e3 := fun (h : rbB l many = true) W => impl_ReadRows (rbS l many) many (by omega) W
  have e4 := fun (h : rbB l many = true) W => impl_ReadRows (rbS l many ++ ⟨#[97]⟩) many (by rw [more_sz]; omega) W
  have f3 := @rdRows_back l many
  have f4 := fun (h : rbB l many = true) => rdRows_more h 97
  generalize rbS l many = S at *
  generalize rbB l many = B at *
  have E1 := Lib.hid e1; have E2 := Lib.hid e2; have E3 := Lib.hid e3; have E4 := Lib.hid e4; have F3 := Lib.hid f3; have F4 := Lib.hid f4
  clear e1 e2 e3 e4 f3 f4
  go_upto_if 55 with (first
    | (go_at_call 56; refine (E1.out _ HR.out).mono ?_; rintro e w2 ⟨rfl, hb⟩; have HR := hide (HR.out.here hb); have Hb := hide (Hb.out.trans (hb.mono Hb.out.size)); clear hb)
    | (go_at_call 57; refine (E2.out _ HR.out).mono ?_; rintro e w3 ⟨rfl, hb⟩; have HR := hide (HR.out.here hb); have Hb := hide (Hb.out.trans (hb.mono Hb.out.size)); clear hb))
  go_cut [] (fun wx => Below w.heap.size w wx)
  case first =>
    cases B
    · go_wp2_with fail
      go_meet
      exact Hb.out
    have g3 := E3.out rfl
    have g4 := E4.out rfl
    rw [F3.out rfl] at g3
    obtain ⟨k1, k2⟩ := F4.out rfl
    generalize rdRows (S ++ ⟨#[97]⟩) many = Q at *
    obtain ⟨L2, q2, b2⟩ := Q
    dsimp only at k1 k2 g3 g4
    subst k1
    have G3 := Lib.hid g3; have G4 := Lib.hid g4
    clear g3 g4 E1 E2 E3 E4 F3 F4
    by_cases h2000 : S.size < 2000
    · obtain rfl := k2 h2000
      clear k2
      have hI : (S.size : Int) < 2000 := by omega
      go_wp2_with (first
        | (go_at_call_of 58 (Value.string S); refine (G3.out _).mono ?_; rintro e w4 ⟨u4, rfl, ho, hb⟩; obtain ⟨xA, xc, rfl⟩ := own_form ho; have HX := hide (Rd.of_own ho); have HR := hide (HR.out.here hb); have Hb := hide (Hb.out.trans (hb.mono Hb.out.size)); clear ho hb)
        | (go_at_call 58; refine (G4.out _).mono ?_; rintro e w5 ⟨u5, rfl, ho, hb⟩; have HX := hide (HX.out.here hb); have HR := hide (HR.out.here hb); have Hb := hide (Hb.out.trans (hb.mono Hb.out.size)); clear ho hb)
        | (go_at_call 49; refine (laws_sameRows _ _ l _ _ _ HX.out HR.out).mono ?_; rintro e w6 ⟨rfl, hb⟩; have HX := hide (HX.out.here hb); have HR := hide (HR.out.here hb); have Hb := hide (Hb.out.trans (hb.mono Hb.out.size)); clear hb))
      go_meet
      exact Hb.out
    · clear k2
      have hI : ¬ (S.size : Int) < 2000 := by omega
      go_wp2_with (first
        | (go_at_call_of 58 (Value.string S); refine (G3.out _).mono ?_; rintro e w4 ⟨u4, rfl, ho, hb⟩; obtain ⟨xA, xc, rfl⟩ := own_form ho; have HX := hide (Rd.of_own ho); have HR := hide (HR.out.here hb); have Hb := hide (Hb.out.trans (hb.mono Hb.out.size)); clear ho hb)
        | (go_at_call 58; refine (G4.out _).mono ?_; rintro e w5 ⟨u5, rfl, ho, hb⟩; have HX := hide (HX.out.here hb); have HR := hide (HR.out.here hb); have Hb := hide (Hb.out.trans (hb.mono Hb.out.size)); clear ho hb)
        | (go_at_call 49; refine (laws_sameRows _ _ l _ _ _ HX.out HR.out).mono ?_; rintro e w6 ⟨rfl, hb⟩; have HX := hide (HX.out.here hb); have HR := hide (HR.out.here hb); have Hb := hide (Hb.out.trans (hb.mono Hb.out.size)); clear hb))
      go_meet
      exact Hb.out
  case rest =>
    have Hb := hide hcut
    clear hcut HR E1 E2 E3 E4 F3 F4
    go_upto_region 14 with (go_at_call 59; refine (D2.out _ Hb.out).mono ?_; rintro e w20 ⟨T, n2, rfl, hT, hn2, hb⟩; have Hb := hide (Hb.out.trans (hb.mono Hb.out.size)); clear hb)
    have f1 := fun W => impl_ReadRows T n2 (by omega) W
    have f2 := fun W => spec_ReadRows T n2 (by omega) W
    have f3 := @rdRows_inv T n2
    generalize rdRows T n2 = Q at *
    obtain ⟨L, q, b⟩ := Q
    dsimp only at f1 f2 f3
    have F1 := Lib.hid f1; have F2 := Lib.hid f2; have F3 := Lib.hid f3
    clear f1 f2 f3
    cases b
    · go_wp2_with (first
        | (go_at_call 58; refine (F1.out _).mono ?_; rintro e w21 ⟨u21, rfl, ho, hb⟩; obtain ⟨xA, xc, rfl⟩ := own_form ho; have HX := hide (Rd.of_own ho); have Hb := hide (Hb.out.trans (hb.mono Hb.out.size)); clear ho hb)
        | (go_at_call 60; refine (F2.out _).mono ?_; rintro e w22 ⟨u22, rfl, ho, hb⟩; obtain ⟨yA, yc, rfl⟩ := own_form ho; have HY := hide (Rd.of_own ho); have HX := hide (HX.out.here hb); have Hb := hide (Hb.out.trans (hb.mono Hb.out.size)); clear ho hb)
        | (go_at_call 49; refine (laws_sameRows _ _ L _ _ _ HX.out HY.out).mono ?_; rintro e w23 ⟨rfl, hb⟩; have Hb := hide (Hb.out.trans (hb.mono Hb.out.size)); clear hb))
      go_ret
      exact ⟨rfl, Hb.out⟩
    · obtain ⟨k1, k2⟩ := F3.out rfl
      have hL : L.length ≤ 300 := by
        have h2 : goodRows L n2 = true ∧ (rowsB L).length ≤ 2000 := by unfold rbB at k2; exact of_decide_eq_true k2
        have hg := h2.1
        unfold goodRows at hg; simp at hg; exact hg.2.1
      have g1 := fun A c W (h : Rd W W.heap.size (.slice A L.length c) L.length (rcells L)) => impl_RowsBytes (.slice A L.length c) L n2 W h (by omega)
      rw [k1, k2] at g1
      have G1 := Lib.hid g1
      clear g1 k1 k2 F3 hL
      go_wp2_with (first
        | (go_at_call 58; refine (F1.out _).mono ?_; rintro e w21 ⟨u21, rfl, ho, hb⟩; obtain ⟨xA, xc, rfl⟩ := own_form ho; have HX := hide (Rd.of_own ho); have Hb := hide (Hb.out.trans (hb.mono Hb.out.size)); clear ho hb)
        | (go_at_call 60; refine (F2.out _).mono ?_; rintro e w22 ⟨u22, rfl, ho, hb⟩; obtain ⟨yA, yc, rfl⟩ := own_form ho; have HY := hide (Rd.of_own ho); have HX := hide (HX.out.here hb); have Hb := hide (Hb.out.trans (hb.mono Hb.out.size)); clear ho hb)
        | (go_at_call 49; refine (laws_sameRows _ _ L _ _ _ HX.out HY.out).mono ?_; rintro e w23 ⟨rfl, hb⟩; have HX := hide (HX.out.here hb); have Hb := hide (Hb.out.trans (hb.mono Hb.out.size)); clear hb)
        | (go_at_call 56; refine (G1.out _ _ _ HX.out).mono ?_; rintro e w24 ⟨rfl, hb⟩; have Hb := hide (Hb.out.trans (hb.mono Hb.out.size)); clear hb))
      go_ret
      exact ⟨rfl, Hb.out⟩
end Go.Proofs.Ytheddnjhkcpmnaa
