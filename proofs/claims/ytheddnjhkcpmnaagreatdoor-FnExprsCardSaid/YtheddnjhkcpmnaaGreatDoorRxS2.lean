
/- spec.l2ReadTok: what the Go text returns. No condition but the text's length. -/
import Derived.Test.YtheddnjhkcpmnaaGreatDoorRxS1
import Derived.Test.YtheddnjhkcpmnaaGreatDoorLw1
import Derived.Lib.SlicesS
set_option linter.unusedSimpArgs false
set_option linter.unusedVariables false
set_option maxRecDepth 100000
namespace Go.Proofs.YtheddnjhkcpmnaaGreatDoor
open Go.RowKit Go.Lib

def l2W : List ByteArray := [⟨#[]⟩, ⟨#[]⟩, ⟨#[]⟩, ⟨#[43]⟩, ⟨#[45]⟩, ⟨#[42]⟩, ⟨#[47]⟩, ⟨#[60]⟩, ⟨#[61]⟩, ⟨#[105, 110]⟩, ⟨#[114, 101, 99]⟩]
theorem l2W_length : l2W.length = 11 := rfl
theorem ba_ext {a b : ByteArray} (h : a.data.toList = b.data.toList) : a = b := by
  cases a; cases b; simp at h; rw [h]
theorem l2W_op {k : Nat} (h : k < l2W.length) (h2 : 2 < k) : opOf l2W[k].data.toList = k := by
  have : k < 11 := h
  obtain rfl | rfl | rfl | rfl | rfl | rfl | rfl | rfl : k = 3 ∨ k = 4 ∨ k = 5 ∨ k = 6 ∨ k = 7 ∨ k = 8 ∨ k = 9 ∨ k = 10 := by omega
  all_goals rfl
theorem l2W_no {s : ByteArray} (h : ∀ j (hj : j < l2W.length), 2 < j → l2W[j] ≠ s) : opOf s.data.toList = 0 := by
  have g : ∀ j (hj : j < l2W.length), 2 < j → s.data.toList ≠ l2W[j].data.toList := fun j hj h2 e => h j hj h2 (ba_ext e.symm)
  unfold opOf
  rw [if_neg (show ¬ s.data.toList = [43] from g 3 (by decide) (by decide)), if_neg (show ¬ s.data.toList = [45] from g 4 (by decide) (by decide)), if_neg (show ¬ s.data.toList = [42] from g 5 (by decide) (by decide)), if_neg (show ¬ s.data.toList = [47] from g 6 (by decide) (by decide)), if_neg (show ¬ s.data.toList = [60] from g 7 (by decide) (by decide)), if_neg (show ¬ s.data.toList = [61] from g 8 (by decide) (by decide)), if_neg (show ¬ s.data.toList = [105, 110] from g 9 (by decide) (by decide)), if_neg (show ¬ s.data.toList = [114, 101, 99] from g 10 (by decide) (by decide))]
theorem spec_l2WordsW (w : World) : Calls Tryz.prog 57 #[] w fun e w' => ∃ g : Nat, e = .returned (.slice (some ⟨g, 0, none⟩) 11 11) ∧ Bk w' g 9 (l2W.map Value.string).toArray ∧ Below w.heap.size w w' := spec_l2Words w
theorem numTok_v {c : UInt8} {r : List UInt8} (h1 : c = 118) : numTok (c :: r) = if 0 ≤ digB r ∧ digB r ≤ 99 then some ⟨2, digB r⟩ else none := (if_pos h1).trans (spec_v r)
theorem numTok_f {c : UInt8} {r : List UInt8} (h1 : ¬ c = 118) (h2 : c = 102) : numTok (c :: r) = if 0 ≤ digB r ∧ digB r ≤ 99 then some ⟨11, digB r⟩ else none := (if_neg h1).trans ((if_pos h2).trans (spec_f r))
theorem numTok_n {c : UInt8} {r : List UInt8} (h3 : c = 45) : numTok (c :: r) = if 0 < digB r ∧ digB r ≤ 2147483648 then some ⟨1, -digB r⟩ else none := by
  have h1 : ¬ c = 118 := by rw [h3]; decide
  have h2 : ¬ c = 102 := by rw [h3]; decide
  exact (if_neg h1).trans ((if_neg h2).trans (by rw [h3]; exact spec_neg r))
theorem numTok_i {c : UInt8} {r : List UInt8} (h1 : ¬ c = 118) (h2 : ¬ c = 102) (h3 : ¬ c = 45) : numTok (c :: r) = if 0 ≤ digB (c :: r) ∧ digB (c :: r) ≤ 2147483647 then some ⟨1, digB (c :: r)⟩ else none := (if_neg h1).trans ((if_neg h2).trans (spec_num h3))
theorem digB_le (s : List UInt8) : digB s ≤ 9999999999 := by
  unfold digB
  split
  · omega
  · rename_i h
    split
    · rename_i m hm
      have hl : s.length ≤ 10 := Nat.le_of_not_lt fun g => h (.inr (.inl g))
      have := decFrom_lt _ _ _ hm
      have h10 : m < 10 ^ 10 := Nat.lt_of_lt_of_le this (by rw [Nat.zero_add, Nat.one_mul]; exact Nat.pow_le_pow_right (by decide) hl)
      omega
    · omega
theorem ba_cons (s : ByteArray) (h : 0 < s.size) : s.data.toList = s[0] :: s.data.toList.drop 1 := by
  have : 0 < s.data.toList.length := by rw [ba_len]; exact h
  rw [← List.drop_zero (l := s.data.toList), List.drop_eq_getElem_cons this]; rfl
theorem tok2_iff {D : Int} (h : 0 ≤ D) : tokOk 100 100 ⟨2, D⟩ = decide (D ≤ 99) := by show inB D 0 99 = _; unfold inB; simp [h]
theorem tok11_iff {D : Int} (h : 0 ≤ D) : tokOk 100 100 ⟨11, D⟩ = decide (D ≤ 99) := by show inB D 0 99 = _; unfold inB; simp [h]
theorem resV {D : Int} {R : Option P2} (h : 0 ≤ D) (hR : R = if 0 ≤ D ∧ D ≤ 99 then some ⟨2, D⟩ else none) : R.isSome = tokOk 100 100 ⟨2, D⟩ ∧ ∀ t, R = some t → t = ⟨2, D⟩ := by
  rw [tok2_iff h]
  by_cases g : D ≤ 99
  · rw [if_pos ⟨h, g⟩] at hR; subst hR; exact ⟨by simp [g], fun t e => (Option.some.inj e).symm⟩
  · rw [if_neg (fun x => g x.2)] at hR; subst hR; exact ⟨by simp [g], fun t e => by cases e⟩
theorem resV_no {D : Int} {R : Option P2} (h : ¬ 0 ≤ D) (hR : R = if 0 ≤ D ∧ D ≤ 99 then some ⟨2, D⟩ else none) : R.isSome = false ∧ ∀ t, R = some t → t = ⟨2, D⟩ := by
  rw [if_neg (fun x => h x.1)] at hR; subst hR; exact ⟨rfl, fun t e => by cases e⟩
theorem resF {D : Int} {R : Option P2} (h : 0 ≤ D) (hR : R = if 0 ≤ D ∧ D ≤ 99 then some ⟨11, D⟩ else none) : R.isSome = tokOk 100 100 ⟨11, D⟩ ∧ ∀ t, R = some t → t = ⟨11, D⟩ := by
  rw [tok11_iff h]
  by_cases g : D ≤ 99
  · rw [if_pos ⟨h, g⟩] at hR; subst hR; exact ⟨by simp [g], fun t e => (Option.some.inj e).symm⟩
  · rw [if_neg (fun x => g x.2)] at hR; subst hR; exact ⟨by simp [g], fun t e => by cases e⟩
theorem resF_no {D : Int} {R : Option P2} (h : ¬ 0 ≤ D) (hR : R = if 0 ≤ D ∧ D ≤ 99 then some ⟨11, D⟩ else none) : R.isSome = false ∧ ∀ t, R = some t → t = ⟨11, D⟩ := by
  rw [if_neg (fun x => h x.1)] at hR; subst hR; exact ⟨rfl, fun t e => by cases e⟩
theorem tok1_iff {n : Int} : tokOk 100 100 ⟨1, n⟩ = decide (-2147483648 ≤ n ∧ n ≤ 2147483647) := rfl
theorem resN {D : Int} {R : Option P2} (h : 0 < D) (hR : R = if 0 < D ∧ D ≤ 2147483648 then some ⟨1, -D⟩ else none) : R.isSome = tokOk 100 100 ⟨1, -D⟩ ∧ ∀ t, R = some t → t = ⟨1, -D⟩ := by
  rw [tok1_iff]
  by_cases g : D ≤ 2147483648
  · rw [if_pos ⟨h, g⟩] at hR; subst hR; exact ⟨(decide_eq_true (by omega)).symm, fun t e => (Option.some.inj e).symm⟩
  · rw [if_neg (fun x => g x.2)] at hR; subst hR; exact ⟨(decide_eq_false (by omega)).symm, fun t e => by cases e⟩
theorem resN_no {D : Int} {R : Option P2} (h : ¬ 0 < D) (hR : R = if 0 < D ∧ D ≤ 2147483648 then some ⟨1, -D⟩ else none) : R.isSome = false ∧ ∀ t, R = some t → t = ⟨1, -D⟩ := by
  rw [if_neg (fun x => h x.1)] at hR; subst hR; exact ⟨rfl, fun t e => by cases e⟩
theorem resI {D : Int} {R : Option P2} (h : 0 ≤ D) (hR : R = if 0 ≤ D ∧ D ≤ 2147483647 then some ⟨1, D⟩ else none) : R.isSome = tokOk 100 100 ⟨1, D⟩ ∧ ∀ t, R = some t → t = ⟨1, D⟩ := by
  rw [tok1_iff]
  by_cases g : D ≤ 2147483647
  · rw [if_pos ⟨h, g⟩] at hR; subst hR; exact ⟨(decide_eq_true (by omega)).symm, fun t e => (Option.some.inj e).symm⟩
  · rw [if_neg (fun x => g x.2)] at hR; subst hR; exact ⟨(decide_eq_false (by omega)).symm, fun t e => by cases e⟩
theorem resI_no {D : Int} {R : Option P2} (h : ¬ 0 ≤ D) (hR : R = if 0 ≤ D ∧ D ≤ 2147483647 then some ⟨1, D⟩ else none) : R.isSome = false ∧ ∀ t, R = some t → t = ⟨1, D⟩ := by
  rw [if_neg (fun x => h x.1)] at hR; subst hR; exact ⟨rfl, fun t e => by cases e⟩
/-- a token that is read, or none -/
def TokP (R : Option P2) (w : World) (e : Ending) (w' : World) : Prop := ∃ (a b : Int) (c : Bool), e = .returned (.tuple #[.agg #[.int .i64 a, .int .i64 b], .bool c]) ∧ R.isSome = c ∧ (∀ t, R = some t → t = ⟨a, b⟩) ∧ Below w.heap.size w w'
structure Tk (w : World) (g6 : Nat) (o d a b : Int) (W : World) : Prop where
  hb : Below w.heap.size w W
  k2 : Bk W w.heap.size 40 #[.int .i64 a, .int .i64 b]
  k6 : Bk W g6 40 #[.int .i64 o, .int .i64 d]
  ne : w.heap.size < g6
section
variable {w : World} {g6 : Nat} {o d a b : Int} {W W1 : World}
theorem Tk.below (h : Tk w g6 o d a b W) (hb : Below W.heap.size W W1) : Tk w g6 o d a b W1 := ⟨h.hb.trans (hb.mono h.hb.size), h.k2.below hb, h.k6.below hb, h.ne⟩
theorem Tk.drew (h : Tk w g6 o d a b W) : Tk w g6 o d a b W.drew := h.below (Below.refl _ _).drew
theorem Tk.set0 (h : Tk w g6 o d a b W) (x : Int) : Tk w g6 o d x b (W.setCell ⟨w.heap.size, 0, none⟩ (.int .i64 x)) := ⟨h.hb.setCell (p := ⟨w.heap.size, 0, none⟩) (Nat.le_refl _) _, h.k2.set 0 _, h.k6.far (by have := h.ne; omega) 0 _, h.ne⟩
theorem Tk.set1 (h : Tk w g6 o d a b W) (x : Int) : Tk w g6 o d a x (W.setCell ⟨w.heap.size, 1, none⟩ (.int .i64 x)) := ⟨h.hb.setCell (p := ⟨w.heap.size, 1, none⟩) (Nat.le_refl _) _, h.k2.set 1 _, h.k6.far (by have := h.ne; omega) 1 _, h.ne⟩
end
set_option maxHeartbeats 3200000 in
theorem spec_l2ReadTok_t (s : ByteArray) (hs : s.size ≤ 1000) (w : World) : Calls Tryz.prog 34 #[.string s] w (TokP (rdTok s.data.toList) w) := by
  have hw1 : ∀ k (hk : k < l2W.length), 2 < k → l2W[k] = s → rdTok s.data.toList = some ⟨k, 0⟩ := fun k hk h2 e => by
    have := l2W_op hk h2
    rw [e] at this
    unfold rdTok; rw [if_neg (by omega), this]
  have hw0 : (∀ j (hj : j < l2W.length), 2 < j → l2W[j] ≠ s) → rdTok s.data.toList = numTok s.data.toList := fun h => if_pos (l2W_no h)
  generalize rdTok s.data.toList = R at *
  have HW1 := Lib.hid hw1; have HW0 := Lib.hid hw0
  have Hb0 := hide ((Below.refl w.heap.size w).alloc (Nat.le_refl _) (.cells #[.int .i64 0, .int .i64 0] 40))
  have Hk0 := hide (Bk.new w 40 #[.int .i64 0, .int .i64 0])
  clear hw1 hw0
  go_enter Tryz.func34, Tryz.ntmps34
  go_wp2_with (go_at_call 57; refine (spec_l2WordsW _).mono ?_; rintro e w1 ⟨g, rfl, hg, hb⟩; have Hb := hide (Hb0.out.trans (hb.mono Hb0.out.size)); have Hk := hide (Hk0.out.below hb); have Hg := hide hg; clear hb hg)
  go_loop [9] (fun i => ∃ k : Nat, k ≤ 11 ∧ i = .int .i64 k ∧ ∀ j (hj : j < l2W.length), j < k → 2 < j → l2W[j] ≠ s) (fun i => 11 - (intOf i).toNat)
  case atStart => exact ⟨0, by omega, rfl, fun j _ h => by omega⟩
  case round =>
    obtain ⟨k, hk, rfl, hno⟩ := hrel
    by_cases hlt : k < 11
    · have hkl : k < l2W.length := hlt
      have hcell : w1.cell? ⟨g, k, none⟩ = some (.string l2W[k]) := (Hg.out.cell k).trans (by simp [hkl])
      have hgl := Hg.out.lt
      have hkI : (k : Int) < 11 := by omega
      by_cases h2 : 2 < k
      · have h2I : (2 : Int) < (k : Int) := by omega
        by_cases he : l2W[k] = s
        · have HR := hide (HW1.out k hkl h2 he)
          have heq : (l2W[k].toList == s.toList) = true := (bytes_beq_iff _ _).2 he
          have k0 := Hk.out.cell 0; have k1 := Hk.out.cell 1; have f0 := Hk.out.frozen 0; have f1 := Hk.out.frozen 1; have kl := Hk.out.lt
          generalize l2W[k] = W at *
          subst he
          clear hno
          go_wp2
          refine bodyPost_ret (v := .tuple #[.agg #[.int .i64 k, .int .i64 0], .bool true]) (by simp [results, Tryz.results34, go_sem, k0, k1, f0, f1, kl]) rfl ⟨k, 0, true, rfl, by rw [HR.out]; rfl, fun t h => by rw [HR.out] at h; exact (Option.some.inj h).symm, ?_⟩
          exact (Hb.out.setCell (p := ⟨w.heap.size, 0, none⟩) (Nat.le_refl _) _).setCell (p := ⟨w.heap.size, 1, none⟩) (Nat.le_refl _) _
        · have heq : (l2W[k].toList == s.toList) = false := (bytes_beq_false_iff _ _).2 he
          have Hno := hide (fun j (hj : j < l2W.length) (h1 : j < k + 1) (h2 : 2 < j) (e : l2W[j] = s) => by
            by_cases hjk : j = k
            · subst hjk; exact he e
            · exact hno j hj (by omega) h2 e : ∀ j (hj : j < l2W.length), j < k + 1 → 2 < j → l2W[j] ≠ s)
          generalize l2W[k] = W at *
          clear hno he
          go_wp2
          go_round
          case rel => exact ⟨k + 1, by omega, by go_num, Hno.out⟩
          case measure => simp [intOf]; omega
      · have h2I : ¬ (2 : Int) < (k : Int) := by omega
        have Hno := hide (fun j (hj : j < l2W.length) (h1 : j < k + 1) (h2 : 2 < j) => by omega : ∀ j (hj : j < l2W.length), j < k + 1 → 2 < j → l2W[j] ≠ s)
        generalize l2W[k] = W at *
        clear hno
        go_wp2
        go_round
        case rel => exact ⟨k + 1, by omega, by go_num, Hno.out⟩
        case measure => simp [intOf]; omega
    · obtain rfl : k = 11 := by omega
      have HR := hide (HW0.out fun j hj h2 => hno j hj hj h2)
      clear hno
      by_cases h0 : s.size = 0
      · have hse : s = ⟨#[]⟩ := ba_ext (List.eq_nil_of_length_eq_zero (by rw [ba_len]; exact h0))
        subst hse
        have HRn := hide (HR.out.trans (rfl : numTok (⟨#[]⟩ : ByteArray).data.toList = none))
        have k0 := Hk.out.cell 0; have k1 := Hk.out.cell 1; have f0 := Hk.out.frozen 0; have f1 := Hk.out.frozen 1; have kl := Hk.out.lt
        clear h0 HW0 HW1
        go_wp2
        refine bodyPost_ret (v := .tuple #[.agg #[.int .i64 0, .int .i64 0], .bool false]) (by simp [results, Tryz.results34, go_sem, k0, k1, f0, f1, kl]) rfl ⟨0, 0, false, rfl, by rw [HRn.out]; rfl, fun t h => (by rw [HRn.out] at h; cases h), ?_⟩
        exact (Hb.out.setCell (p := ⟨w.heap.size, 0, none⟩) (Nat.le_refl _) _).setCell (p := ⟨w.heap.size, 1, none⟩) (Nat.le_refl _) _
      have hp : 0 < s.size := by omega
      have hpI : (0 : Int) < (s.size : Int) := by omega
      have hsl : ¬ s.toList = [] := by rw [ByteArray.toList_eq]; exact fun e => h0 (by rw [← ba_len, e]; rfl)
      have hse : s.toList.isEmpty = false := by cases hx : s.toList with | nil => exact absurd hx hsl | cons => rfl
      have hds : ∀ W, Calls Tryz.prog 58 #[.string s] W fun e w' => e = .returned (.int .i64 (digB s.data.toList)) ∧ W = w' := fun W => spec_l2Digits s (by omega) W
      have HDS := Lib.hid hds
      have k0 := Hk.out.cell 0; have k1 := Hk.out.cell 1; have f0 := Hk.out.frozen 0; have f1 := Hk.out.frozen 1; have kl := Hk.out.lt
      clear hds HW0 HW1
      have hcons : s.data.toList = s[0] :: (s.extract 1 s.size).data.toList := by
        rw [extract_to_end]; exact ba_cons s hp
      have hxs : (s.extract 1 s.size).size ≤ 1000 := by rw [ByteArray.size_extract]; omega
      have hdx : ∀ W, Calls Tryz.prog 58 #[.string (s.extract 1 s.size)] W fun e w' => e = .returned (.int .i64 (digB (s.extract 1 s.size).data.toList)) ∧ W = w' := fun W => spec_l2Digits _ (by omega) W
      have HDX := Lib.hid hdx; have HCons := hide hcons
      have Ht0 := fun (o d : Int) => (⟨Hb.out.alloc Hb.out.size (.cells #[.int .i64 o, .int .i64 d] 40), Hk.out.alloc _, Bk.new _ _ _, Hk.out.lt⟩ : Tk w w1.heap.size o d 0 0 (w1.alloc (.cells #[.int .i64 o, .int .i64 d] 40)))
      have HT0 := Lib.hid Ht0
      clear hdx hcons Ht0 hk hlt
      by_cases c1 : s[0] = 118
      · skip
        have bc1 : ((s[0].toNat : Int) == 118) = true := by rw [c1]; rfl
        have hN2 : numTok s.data.toList = (if 0 ≤ (digB (s.extract 1 s.size).data.toList) ∧ (digB (s.extract 1 s.size).data.toList) ≤ 99 then some ⟨2, (digB (s.extract 1 s.size).data.toList)⟩ else none) := by rw [HCons.out]; exact numTok_v c1
        have hR2 := HR.out.trans hN2
        have hge := digB_ge (s.extract 1 s.size).data.toList
        have hle := digB_le (s.extract 1 s.size).data.toList
        generalize digB (s.extract 1 s.size).data.toList = D at *
        generalize digB s.data.toList = D0 at *
        clear hN2 HR
        clear c1
        by_cases hD : 0 ≤ D
        · have HRR := hide (resV (D := D) hD hR2)
          clear hR2
          go_upto_region 18 with (first | (go_at_call_of 58 (Value.string s); refine (HDS.out _).mono ?_; rintro e w2 ⟨rfl, rfl⟩) | (go_at_call 58; refine (HDX.out _).mono ?_; rintro e w2 ⟨rfl, rfl⟩))
          have Ht := hide (HT0.out 2 (D)).drew
          have Ht2 := hide ((((HT0.out 2 (D)).set0 2).set1 (D)).drew)
          have htok := fun W => spec_l2Token 2 (D) W
          generalize tokOk 100 100 ⟨2, D⟩ = TB at *
          have HTk := Lib.hid htok; clear htok
          go_region_with (go_at_call 27; refine (HTk.out _).mono ?_; rintro e w3 ⟨rfl, hb3⟩; first | (have Ht3 : Tk w w1.heap.size 2 (D) 0 0 w3 := (by with_reducible exact Ht.out.below hb3); have k0 := Ht3.k2.cell 0; have k1 := Ht3.k2.cell 1; have f0 := Ht3.k2.frozen 0; have f1 := Ht3.k2.frozen 1; have i0 := Ht3.k6.cell 0; have i1 := Ht3.k6.cell 1; have kl : w.heap.size < w3.heap.size := Ht3.k2.lt; have il : w1.heap.size < w3.heap.size := Ht3.k6.lt; have hb4 := hide Ht3.hb; clear hb3) | (have Ht3 : Tk w w1.heap.size 2 (D) 2 (D) w3 := (by with_reducible exact Ht2.out.below hb3); have k0 := Ht3.k2.cell 0; have k1 := Ht3.k2.cell 1; have f0 := Ht3.k2.frozen 0; have f1 := Ht3.k2.frozen 1; have i0 := Ht3.k6.cell 0; have i1 := Ht3.k6.cell 1; have kl : w.heap.size < w3.heap.size := Ht3.k2.lt; have il : w1.heap.size < w3.heap.size := Ht3.k6.lt; have hb4 := hide Ht3.hb; clear hb3))
          all_goals
            go_wp2_with fail
            refine bodyPost_ret (v := .tuple #[.agg #[.int .i64 2, .int .i64 (D)], .bool TB]) (by simp [results, Tryz.results34, go_sem, k0, k1, f0, f1, kl]) rfl ⟨2, D, TB, rfl, HRR.out.1, HRR.out.2, ?_⟩
            first | exact hb4.out | exact (hb4.out.setCell (p := ⟨w.heap.size, 0, none⟩) (Nat.le_refl _) _).setCell (p := ⟨w.heap.size, 1, none⟩) (Nat.le_refl _) _
        · have HRR := hide (resV_no (D := D) hD hR2)
          have hDI : D < 0 := by omega
          clear hR2
          go_upto_region 18 with (first | (go_at_call_of 58 (Value.string s); refine (HDS.out _).mono ?_; rintro e w2 ⟨rfl, rfl⟩) | (go_at_call 58; refine (HDX.out _).mono ?_; rintro e w2 ⟨rfl, rfl⟩))
          have Ht := hide (HT0.out 2 (D)).drew
          have Ht2 := hide ((((HT0.out 2 (D)).set0 2).set1 (D)).drew)
          go_region_with (fail)
          all_goals
            go_wp2_with fail
            refine bodyPost_ret (v := .tuple #[.agg #[.int .i64 2, .int .i64 (D)], .bool false]) (by simp [results, Tryz.results34, go_sem, k0, k1, f0, f1, kl]) rfl ⟨2, D, false, rfl, HRR.out.1, HRR.out.2, ?_⟩
            exact (((Hb.out.setCell (p := ⟨w.heap.size, 0, none⟩) (Nat.le_refl _) (.int .i64 2)).setCell (p := ⟨w.heap.size, 1, none⟩) (Nat.le_refl _) (.int .i64 (D))).alloc ((Hb.out.setCell (p := ⟨w.heap.size, 0, none⟩) (Nat.le_refl _) (.int .i64 2)).setCell (p := ⟨w.heap.size, 1, none⟩) (Nat.le_refl _) (.int .i64 (D))).size _).drew
      by_cases c2 : s[0] = 102
      · skip
        have bc1 : ((s[0].toNat : Int) == 118) = false := u8_ne (n := 118) (by decide) c1
        have bc2 : ((s[0].toNat : Int) == 102) = true := by rw [c2]; rfl
        have hN2 : numTok s.data.toList = (if 0 ≤ (digB (s.extract 1 s.size).data.toList) ∧ (digB (s.extract 1 s.size).data.toList) ≤ 99 then some ⟨11, (digB (s.extract 1 s.size).data.toList)⟩ else none) := by rw [HCons.out]; exact numTok_f c1 c2
        have hR2 := HR.out.trans hN2
        have hge := digB_ge (s.extract 1 s.size).data.toList
        have hle := digB_le (s.extract 1 s.size).data.toList
        generalize digB (s.extract 1 s.size).data.toList = D at *
        generalize digB s.data.toList = D0 at *
        clear hN2 HR
        clear c1 c2
        by_cases hD : 0 ≤ D
        · have HRR := hide (resF (D := D) hD hR2)
          clear hR2
          go_upto_region 18 with (first | (go_at_call_of 58 (Value.string s); refine (HDS.out _).mono ?_; rintro e w2 ⟨rfl, rfl⟩) | (go_at_call 58; refine (HDX.out _).mono ?_; rintro e w2 ⟨rfl, rfl⟩))
          have Ht := hide (HT0.out 11 (D)).drew
          have Ht2 := hide ((((HT0.out 11 (D)).set0 11).set1 (D)).drew)
          have htok := fun W => spec_l2Token 11 (D) W
          generalize tokOk 100 100 ⟨11, D⟩ = TB at *
          have HTk := Lib.hid htok; clear htok
          go_region_with (go_at_call 27; refine (HTk.out _).mono ?_; rintro e w3 ⟨rfl, hb3⟩; first | (have Ht3 : Tk w w1.heap.size 11 (D) 0 0 w3 := (by with_reducible exact Ht.out.below hb3); have k0 := Ht3.k2.cell 0; have k1 := Ht3.k2.cell 1; have f0 := Ht3.k2.frozen 0; have f1 := Ht3.k2.frozen 1; have i0 := Ht3.k6.cell 0; have i1 := Ht3.k6.cell 1; have kl : w.heap.size < w3.heap.size := Ht3.k2.lt; have il : w1.heap.size < w3.heap.size := Ht3.k6.lt; have hb4 := hide Ht3.hb; clear hb3) | (have Ht3 : Tk w w1.heap.size 11 (D) 11 (D) w3 := (by with_reducible exact Ht2.out.below hb3); have k0 := Ht3.k2.cell 0; have k1 := Ht3.k2.cell 1; have f0 := Ht3.k2.frozen 0; have f1 := Ht3.k2.frozen 1; have i0 := Ht3.k6.cell 0; have i1 := Ht3.k6.cell 1; have kl : w.heap.size < w3.heap.size := Ht3.k2.lt; have il : w1.heap.size < w3.heap.size := Ht3.k6.lt; have hb4 := hide Ht3.hb; clear hb3))
          all_goals
            go_wp2_with fail
            refine bodyPost_ret (v := .tuple #[.agg #[.int .i64 11, .int .i64 (D)], .bool TB]) (by simp [results, Tryz.results34, go_sem, k0, k1, f0, f1, kl]) rfl ⟨11, D, TB, rfl, HRR.out.1, HRR.out.2, ?_⟩
            first | exact hb4.out | exact (hb4.out.setCell (p := ⟨w.heap.size, 0, none⟩) (Nat.le_refl _) _).setCell (p := ⟨w.heap.size, 1, none⟩) (Nat.le_refl _) _
        · have HRR := hide (resF_no (D := D) hD hR2)
          have hDI : D < 0 := by omega
          clear hR2
          go_upto_region 18 with (first | (go_at_call_of 58 (Value.string s); refine (HDS.out _).mono ?_; rintro e w2 ⟨rfl, rfl⟩) | (go_at_call 58; refine (HDX.out _).mono ?_; rintro e w2 ⟨rfl, rfl⟩))
          have Ht := hide (HT0.out 11 (D)).drew
          have Ht2 := hide ((((HT0.out 11 (D)).set0 11).set1 (D)).drew)
          go_region_with (fail)
          all_goals
            go_wp2_with fail
            refine bodyPost_ret (v := .tuple #[.agg #[.int .i64 11, .int .i64 (D)], .bool false]) (by simp [results, Tryz.results34, go_sem, k0, k1, f0, f1, kl]) rfl ⟨11, D, false, rfl, HRR.out.1, HRR.out.2, ?_⟩
            exact (((Hb.out.setCell (p := ⟨w.heap.size, 0, none⟩) (Nat.le_refl _) (.int .i64 11)).setCell (p := ⟨w.heap.size, 1, none⟩) (Nat.le_refl _) (.int .i64 (D))).alloc ((Hb.out.setCell (p := ⟨w.heap.size, 0, none⟩) (Nat.le_refl _) (.int .i64 11)).setCell (p := ⟨w.heap.size, 1, none⟩) (Nat.le_refl _) (.int .i64 (D))).size _).drew
      by_cases c3 : s[0] = 45
      · skip
        have bc1 : ((s[0].toNat : Int) == 118) = false := u8_ne (n := 118) (by decide) c1
        have bc2 : ((s[0].toNat : Int) == 102) = false := u8_ne (n := 102) (by decide) c2
        have bc3 : ((s[0].toNat : Int) == 45) = true := by rw [c3]; rfl
        have hN2 : numTok s.data.toList = (if 0 < (digB (s.extract 1 s.size).data.toList) ∧ (digB (s.extract 1 s.size).data.toList) ≤ 2147483648 then some ⟨1, -(digB (s.extract 1 s.size).data.toList)⟩ else none) := by rw [HCons.out]; exact numTok_n c3
        have hR2 := HR.out.trans hN2
        have hge := digB_ge (s.extract 1 s.size).data.toList
        have hle := digB_le (s.extract 1 s.size).data.toList
        generalize digB (s.extract 1 s.size).data.toList = D at *
        generalize digB s.data.toList = D0 at *
        clear hN2 HR
        clear c1 c2 c3
        by_cases hD : 0 < D
        · have HRR := hide (resN (D := D) hD hR2)
          have hDI : -D < 0 := by omega
          clear hR2
          go_upto_region 17 with (first | (go_at_call_of 58 (Value.string s); refine (HDS.out _).mono ?_; rintro e w2 ⟨rfl, rfl⟩) | (go_at_call 58; refine (HDX.out _).mono ?_; rintro e w2 ⟨rfl, rfl⟩))
          have Ht := hide (HT0.out 1 (-D)).drew
          have Ht2 := hide ((((HT0.out 1 (-D)).set0 1).set1 (-D)).drew)
          have htok := fun W => spec_l2Token 1 (-D) W
          generalize tokOk 100 100 ⟨1, -D⟩ = TB at *
          have HTk := Lib.hid htok; clear htok
          go_region_with (go_at_call 27; refine (HTk.out _).mono ?_; rintro e w3 ⟨rfl, hb3⟩; first | (have Ht3 : Tk w w1.heap.size 1 (-D) 0 0 w3 := (by with_reducible exact Ht.out.below hb3); have k0 := Ht3.k2.cell 0; have k1 := Ht3.k2.cell 1; have f0 := Ht3.k2.frozen 0; have f1 := Ht3.k2.frozen 1; have i0 := Ht3.k6.cell 0; have i1 := Ht3.k6.cell 1; have kl : w.heap.size < w3.heap.size := Ht3.k2.lt; have il : w1.heap.size < w3.heap.size := Ht3.k6.lt; have hb4 := hide Ht3.hb; clear hb3) | (have Ht3 : Tk w w1.heap.size 1 (-D) 1 (-D) w3 := (by with_reducible exact Ht2.out.below hb3); have k0 := Ht3.k2.cell 0; have k1 := Ht3.k2.cell 1; have f0 := Ht3.k2.frozen 0; have f1 := Ht3.k2.frozen 1; have i0 := Ht3.k6.cell 0; have i1 := Ht3.k6.cell 1; have kl : w.heap.size < w3.heap.size := Ht3.k2.lt; have il : w1.heap.size < w3.heap.size := Ht3.k6.lt; have hb4 := hide Ht3.hb; clear hb3))
          all_goals
            go_wp2_with fail
            refine bodyPost_ret (v := .tuple #[.agg #[.int .i64 1, .int .i64 (-D)], .bool TB]) (by simp [results, Tryz.results34, go_sem, k0, k1, f0, f1, kl]) rfl ⟨1, -D, TB, rfl, HRR.out.1, HRR.out.2, ?_⟩
            first | exact hb4.out | exact (hb4.out.setCell (p := ⟨w.heap.size, 0, none⟩) (Nat.le_refl _) _).setCell (p := ⟨w.heap.size, 1, none⟩) (Nat.le_refl _) _
        · have HRR := hide (resN_no (D := D) hD hR2)
          have hDI : ¬ -D < 0 := by omega
          clear hR2
          go_upto_region 17 with (first | (go_at_call_of 58 (Value.string s); refine (HDS.out _).mono ?_; rintro e w2 ⟨rfl, rfl⟩) | (go_at_call 58; refine (HDX.out _).mono ?_; rintro e w2 ⟨rfl, rfl⟩))
          have Ht := hide (HT0.out 1 (-D)).drew
          have Ht2 := hide ((((HT0.out 1 (-D)).set0 1).set1 (-D)).drew)
          go_region_with (fail)
          all_goals
            go_wp2_with fail
            refine bodyPost_ret (v := .tuple #[.agg #[.int .i64 1, .int .i64 (-D)], .bool false]) (by simp [results, Tryz.results34, go_sem, k0, k1, f0, f1, kl]) rfl ⟨1, -D, false, rfl, HRR.out.1, HRR.out.2, ?_⟩
            exact (((Hb.out.setCell (p := ⟨w.heap.size, 0, none⟩) (Nat.le_refl _) (.int .i64 1)).setCell (p := ⟨w.heap.size, 1, none⟩) (Nat.le_refl _) (.int .i64 (-D))).alloc ((Hb.out.setCell (p := ⟨w.heap.size, 0, none⟩) (Nat.le_refl _) (.int .i64 1)).setCell (p := ⟨w.heap.size, 1, none⟩) (Nat.le_refl _) (.int .i64 (-D))).size _).drew
      · skip
        have bc1 : ((s[0].toNat : Int) == 118) = false := u8_ne (n := 118) (by decide) c1
        have bc2 : ((s[0].toNat : Int) == 102) = false := u8_ne (n := 102) (by decide) c2
        have bc3 : ((s[0].toNat : Int) == 45) = false := u8_ne (n := 45) (by decide) c3
        have hN2 : numTok s.data.toList = (if 0 ≤ (digB s.data.toList) ∧ (digB s.data.toList) ≤ 2147483647 then some ⟨1, (digB s.data.toList)⟩ else none) := by rw [HCons.out]; exact numTok_i c1 c2 c3
        have hR2 := HR.out.trans hN2
        have hge := digB_ge s.data.toList
        have hle := digB_le s.data.toList
        generalize digB s.data.toList = D at *
        clear hN2 HR
        clear c1 c2 c3
        by_cases hD : 0 ≤ D
        · have HRR := hide (resI (D := D) hD hR2)
          clear hR2
          go_upto_region 18 with (first | (go_at_call_of 58 (Value.string s); refine (HDS.out _).mono ?_; rintro e w2 ⟨rfl, rfl⟩) | (go_at_call 58; refine (HDX.out _).mono ?_; rintro e w2 ⟨rfl, rfl⟩))
          have Ht := hide (HT0.out 1 (D)).drew
          have Ht2 := hide ((((HT0.out 1 (D)).set0 1).set1 (D)).drew)
          have htok := fun W => spec_l2Token 1 (D) W
          generalize tokOk 100 100 ⟨1, D⟩ = TB at *
          have HTk := Lib.hid htok; clear htok
          go_region_with (go_at_call 27; refine (HTk.out _).mono ?_; rintro e w3 ⟨rfl, hb3⟩; first | (have Ht3 : Tk w w1.heap.size 1 (D) 0 0 w3 := (by with_reducible exact Ht.out.below hb3); have k0 := Ht3.k2.cell 0; have k1 := Ht3.k2.cell 1; have f0 := Ht3.k2.frozen 0; have f1 := Ht3.k2.frozen 1; have i0 := Ht3.k6.cell 0; have i1 := Ht3.k6.cell 1; have kl : w.heap.size < w3.heap.size := Ht3.k2.lt; have il : w1.heap.size < w3.heap.size := Ht3.k6.lt; have hb4 := hide Ht3.hb; clear hb3) | (have Ht3 : Tk w w1.heap.size 1 (D) 1 (D) w3 := (by with_reducible exact Ht2.out.below hb3); have k0 := Ht3.k2.cell 0; have k1 := Ht3.k2.cell 1; have f0 := Ht3.k2.frozen 0; have f1 := Ht3.k2.frozen 1; have i0 := Ht3.k6.cell 0; have i1 := Ht3.k6.cell 1; have kl : w.heap.size < w3.heap.size := Ht3.k2.lt; have il : w1.heap.size < w3.heap.size := Ht3.k6.lt; have hb4 := hide Ht3.hb; clear hb3))
          all_goals
            go_wp2_with fail
            refine bodyPost_ret (v := .tuple #[.agg #[.int .i64 1, .int .i64 (D)], .bool TB]) (by simp [results, Tryz.results34, go_sem, k0, k1, f0, f1, kl]) rfl ⟨1, D, TB, rfl, HRR.out.1, HRR.out.2, ?_⟩
            first | exact hb4.out | exact (hb4.out.setCell (p := ⟨w.heap.size, 0, none⟩) (Nat.le_refl _) _).setCell (p := ⟨w.heap.size, 1, none⟩) (Nat.le_refl _) _
        · have HRR := hide (resI_no (D := D) hD hR2)
          have hDI : D < 0 := by omega
          clear hR2
          go_upto_region 18 with (first | (go_at_call_of 58 (Value.string s); refine (HDS.out _).mono ?_; rintro e w2 ⟨rfl, rfl⟩) | (go_at_call 58; refine (HDX.out _).mono ?_; rintro e w2 ⟨rfl, rfl⟩))
          have Ht := hide (HT0.out 1 (D)).drew
          have Ht2 := hide ((((HT0.out 1 (D)).set0 1).set1 (D)).drew)
          go_region_with (fail)
          all_goals
            go_wp2_with fail
            refine bodyPost_ret (v := .tuple #[.agg #[.int .i64 1, .int .i64 (D)], .bool false]) (by simp [results, Tryz.results34, go_sem, k0, k1, f0, f1, kl]) rfl ⟨1, D, false, rfl, HRR.out.1, HRR.out.2, ?_⟩
            exact (((Hb.out.setCell (p := ⟨w.heap.size, 0, none⟩) (Nat.le_refl _) (.int .i64 1)).setCell (p := ⟨w.heap.size, 1, none⟩) (Nat.le_refl _) (.int .i64 (D))).alloc ((Hb.out.setCell (p := ⟨w.heap.size, 0, none⟩) (Nat.le_refl _) (.int .i64 1)).setCell (p := ⟨w.heap.size, 1, none⟩) (Nat.le_refl _) (.int .i64 (D))).size _).drew
end Go.Proofs.YtheddnjhkcpmnaaGreatDoor
