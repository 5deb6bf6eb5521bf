
/- spec.ExprText: what the Go text returns. No condition. -/
import Derived.Test.YtheddnjhkcpmnaaGreatDoorLwP
import Derived.Test.YtheddnjhkcpmnaaGreatDoorEx
import Derived.Test.YtheddnjhkcpmnaaGreatDoorTokM
import Derived.Deep.RegionHeld3
import Derived.Deep.RegionWith
set_option linter.unusedSimpArgs false
set_option linter.unusedVariables false
set_option maxRecDepth 100000
namespace Go.Proofs.YtheddnjhkcpmnaaGreatDoor
open Go.RowKit

theorem cat_mkT (a b : List UInt8) : (⟨a.toArray⟩ : ByteArray) ++ ⟨b.toArray⟩ = ⟨(a ++ b).toArray⟩ := by
  apply ByteArray.ext
  simp [ByteArray.data_append]
theorem mk_sizeT (l : List UInt8) : (⟨l.toArray⟩ : ByteArray).size = l.length := by simp [ByteArray.size]
theorem retSBT {s s' : ByteArray} {b b' : Bool} (h : s' = s ∧ b' = b) : Ending.returned (.tuple #[.string s, .bool b]) = .returned (.tuple #[.string s', .bool b']) := by rw [h.1, h.2]
theorem digit (n : Nat) (h : n < 10) : (UInt8.ofNat (48 + n)).toNat = 48 + n := by simp; omega
theorem digit_cells (n : Nat) (h : n < 10) : bcells [UInt8.ofNat (48 + n)] = [.int .u8 (48 + (n : Int))] := by
  unfold bcells; rw [List.map_singleton, digit n h]; congr 2
theorem own_digit (n : Nat) (h : n < 10) (w : World) : (w.alloc (.cells #[.int .u8 (48 + (n : Int))] 5)).ownsRow w.heap.size 5 1 (.slice (some ⟨w.heap.size, 0, none⟩) 1 1) 1 (bcells [UInt8.ofNat (48 + n)]) := by
  rw [digit_cells n h]
  exact World.ownsRow_lit (base := w.heap.size) (e := 5) (size := 1) w #[.int .u8 (48 + (n : Int))] 1 (Nat.le_refl _) (by unfold maxLen; omega) rfl
set_option maxHeartbeats 1600000 in
theorem spec_l1Num_any (k : Nat) : ∀ (n : Nat) (w : World), n < 10 ^ k → 0 < k → k ≤ 10 → Calls Tryz.prog 69 #[.int .i64 (n : Int)] w fun e w' => e = .returned (.string ⟨(num10 n).toArray⟩) ∧ Below w.heap.size w w' := by
  induction k with
  | zero => intro n w _ h; omega
  | succ k ih =>
    intro n w hn _ hk
    by_cases h : n < 10
    · have hcv := run_str_own Tryz.underlying22 Tryz.underlying5 Tryz.underlying9 (own_digit n h w)
      rw [num10_small h]
      generalize UInt8.ofNat (48 + n) = d at *
      clear ih hn
      go_enter Tryz.func69, Tryz.ntmps69
      go_wp2
      go_ret
      exact ⟨rfl, (Below.refl _ _).alloc (Nat.le_refl _) _⟩
    · have hk0 : 0 < k := by
        rcases k with _ | k
        · simp at hn; omega
        · omega
      have hlen := num10_len k (n / 10) (by rw [Nat.pow_succ] at hn; omega) hk0
      have hih := fun W => ih (n / 10) W (by rw [Nat.pow_succ] at hn; omega) hk0 (by omega)
      have hnb : n < 10000000000 := Nat.lt_of_lt_of_le hn (Nat.le_trans (Nat.pow_le_pow_right (by decide) hk) (by decide))
      rw [num10_more h]
      have hL : ∀ L : List UInt8, L.length ≤ k → (⟨L.toArray⟩ : ByteArray).size ≤ k := fun L h => by rw [mk_sizeT]; exact h
      have hl2 := hL _ hlen
      generalize num10 (n / 10) = L at *
      have hcv := fun (W : World) => run_str_own Tryz.underlying22 Tryz.underlying5 Tryz.underlying9 (own_digit (n % 10) (by omega) W)
      have e1 : ((n % 10 : Nat) : Int) = IntKind.u8.wrap (IntKind.i64.wrap (48 + (n : Int).tmod 10)) - 48 := by
        rw [Int.tmod_eq_emod_of_nonneg (by omega), IntKind.wrap_i64, IntKind.wrap_u8]; omega
      have e2 : ((n / 10 : Nat) : Int) = IntKind.i64.wrap ((n : Int).tdiv 10) := by
        rw [Int.tdiv_eq_ediv_of_nonneg (by omega), IntKind.wrap_i64]; omega
      have hod := own_digit (n % 10) (by omega)
      rw [e1] at hod
      simp only [show ∀ x : Int, 48 + (x - 48) = x from fun x => by omega] at hod
      rw [e2] at hih
      have hn0 : (0 : Int) ≤ n := by omega
      have hnb' : (n : Int) < 10000000000 := by omega
      have h10 : (10 : Int) ≤ n := by omega
      generalize UInt8.ofNat (48 + n % 10) = d at *
      clear hcv e1 e2
      generalize (n : Int) = z at *
      have hcv := fun (W : World) => run_str_own Tryz.underlying22 Tryz.underlying5 Tryz.underlying9 (hod W)
      have hodw : (w.drew.alloc (.cells #[.int .u8 (IntKind.u8.wrap (IntKind.i64.wrap (48 + z.tmod 10)))] 5)).ownsRow w.heap.size 5 1 (.slice (some ⟨w.heap.size, 0, none⟩) 1 1) 1 (bcells [d]) := hod w.drew
      have hodd : ((w.alloc (.cells #[.int .u8 (IntKind.u8.wrap (IntKind.i64.wrap (48 + z.tmod 10)))] 5)).drew).ownsRow w.heap.size 5 1 (.slice (some ⟨w.heap.size, 0, none⟩) 1 1) 1 (bcells [d]) := hod w
      have hcw := run_str_own Tryz.underlying22 Tryz.underlying5 Tryz.underlying9 hodd
      have Hih := Lib.hid hih; have Hod := hide hodd
      clear ih hn hih hk0 hL h hnb hod hodw hodd
      go_enter Tryz.func69, Tryz.ntmps69
      go_wp2
      go_region_with (go_at_call 69; refine (Hih.out _).mono ?_; rintro e w3 ⟨rfl, hb3⟩; (try have hc3 := run_str_own Tryz.underlying22 Tryz.underlying5 Tryz.underlying9 (own_keep Hod.out hb3)))
      all_goals
        go_wp2
        go_ret
        refine ⟨retS (cat_mkT _ _), ?_⟩
        first
        | exact (((Below.refl w.heap.size w).drew.trans hb3)).alloc (by have := hb3.size; simpa using this) _
        | exact (((Below.refl w.heap.size w).alloc (Nat.le_refl _) _).drew).trans (hb3.mono (by simp))
theorem spec_l1Num (n : Nat) (hn : n < 10000000000) (w : World) : Calls Tryz.prog 69 #[.int .i64 (n : Int)] w fun e w' => e = .returned (.string ⟨(num10 n).toArray⟩) ∧ Below w.heap.size w w' :=
  spec_l1Num_any 10 n w (by simpa using hn) (by decide) (by decide)
theorem small_nat {n : Int} (h1 : 0 ≤ n) : n = ((n.toNat : Nat) : Int) := by omega
set_option maxHeartbeats 800000 in
theorem spec_l2Int (n : Int) (h1 : -2147483648 ≤ n) (h2 : n ≤ 2147483647) (w : World) : Calls Tryz.prog 68 #[.int .i64 n] w fun e w' => e = .returned (.string ⟨(intT n).toArray⟩) ∧ Below w.heap.size w w' := by
  by_cases h : n < 0
  · have hc := fun W => spec_l1Num (-n).toNat (by omega) W
    have hlen := num10_len 10 (-n).toNat (by omega) (by decide)
    rw [← small_nat (by omega)] at hc
    rw [show intT n = 45 :: num10 (-n).toNat from if_pos h]
    have hl2 : (⟨(num10 (-n).toNat).toArray⟩ : ByteArray).size ≤ 10 := by rw [mk_sizeT]; exact hlen
    generalize num10 (-n).toNat = L at *
    have HC := Lib.hid hc; clear hc
    go_enter Tryz.func68, Tryz.ntmps68
    go_wp2_with (go_at_call 69; refine (HC.out _).mono ?_; rintro e w1 ⟨rfl, hb1⟩)
    go_ret
    exact ⟨retS (cat_mkT [45] _), hb1⟩
  · have hc := fun W => spec_l1Num n.toNat (by omega) W
    rw [← small_nat (by omega)] at hc
    rw [show intT n = num10 n.toNat from if_neg h]
    generalize num10 n.toNat = L at *
    have HC := Lib.hid hc; clear hc
    go_enter Tryz.func68, Tryz.ntmps68
    go_wp2_with (go_at_call 69; refine (HC.out _).mono ?_; rintro e w1 ⟨rfl, hb1⟩)
    go_ret
    exact ⟨rfl, hb1⟩
theorem spec_l2Words (w : World) : Calls Tryz.prog 57 #[] w fun e w' => ∃ g : Nat, e = .returned (.slice (some ⟨g, 0, none⟩) 11 11) ∧ Bk w' g 9 #[.string ⟨#[]⟩, .string ⟨#[]⟩, .string ⟨#[]⟩, .string ⟨#[43]⟩, .string ⟨#[45]⟩, .string ⟨#[42]⟩, .string ⟨#[47]⟩, .string ⟨#[60]⟩, .string ⟨#[61]⟩, .string ⟨#[105, 110]⟩, .string ⟨#[114, 101, 99]⟩] ∧ Below w.heap.size w w' := by
  go_enter Tryz.func57, Tryz.ntmps57
  go_wp2
  go_ret
  exact ⟨_, rfl, Bk.new _ _ _, (Below.refl _ _).alloc (Nat.le_refl _) _⟩
set_option maxHeartbeats 3200000 in
theorem spec_l2TokText (o n : Int) (h : tokOk 100 100 ⟨o, n⟩ = true) (w : World) : Calls Tryz.prog 52 #[.agg #[.int .i64 o, .int .i64 n]] w fun e w' => e = .returned (.string ⟨(tokT ⟨o, n⟩).toArray⟩) ∧ Below w.heap.size w w' := by
  have hbx := (Below.refl w.heap.size w).alloc (Nat.le_refl _) (.cells #[.int .i64 o, .int .i64 n] 40)
  by_cases o1 : o = 1
  · subst o1
    have hn := inB_iff.1 (show inB n (-2147483648) 2147483647 = true from h)
    have hc := fun W => spec_l2Int n hn.1 hn.2 W
    rw [show tokT ⟨1, n⟩ = intT n from rfl]
    have HC := Lib.hid hc; have Hb := hide hbx; clear hc hbx h hn
    go_enter Tryz.func52, Tryz.ntmps52
    go_wp2_with (go_at_call 68; refine (HC.out _).mono ?_; rintro e w1 ⟨rfl, hb1⟩)
    go_ret
    exact ⟨rfl, Hb.out.trans (hb1.mono Hb.out.size)⟩
  by_cases o2 : o = 2
  · subst o2
    have hn := inB_iff.1 (show inB n 0 99 = true from h)
    have hc := fun W => spec_l1Num n.toNat (by omega) W
    have hlen := num10_len 10 n.toNat (by omega) (by decide)
    have hl2 : (⟨(num10 n.toNat).toArray⟩ : ByteArray).size ≤ 10 := by rw [mk_sizeT]; exact hlen
    rw [← small_nat (by omega)] at hc
    rw [show tokT ⟨2, n⟩ = 118 :: num10 n.toNat from rfl]
    generalize num10 n.toNat = L at *
    have HC := Lib.hid hc; have Hb := hide hbx; clear hc hbx h hn
    go_enter Tryz.func52, Tryz.ntmps52
    go_wp2_with (go_at_call 69; refine (HC.out _).mono ?_; rintro e w1 ⟨rfl, hb1⟩)
    go_ret
    exact ⟨retS (cat_mkT [118] _), Hb.out.trans (hb1.mono Hb.out.size)⟩
  by_cases o3 : o = 11
  · subst o3
    have hn := inB_iff.1 (show inB n 0 99 = true from h)
    have hc := fun W => spec_l1Num n.toNat (by omega) W
    have hlen := num10_len 10 n.toNat (by omega) (by decide)
    have hl2 : (⟨(num10 n.toNat).toArray⟩ : ByteArray).size ≤ 10 := by rw [mk_sizeT]; exact hlen
    rw [← small_nat (by omega)] at hc
    rw [show tokT ⟨11, n⟩ = 102 :: num10 n.toNat from rfl]
    generalize num10 n.toNat = L at *
    have HC := Lib.hid hc; have Hb := hide hbx; clear hc hbx h hn
    go_enter Tryz.func52, Tryz.ntmps52
    go_wp2_with (go_at_call 69; refine (HC.out _).mono ?_; rintro e w1 ⟨rfl, hb1⟩)
    go_ret
    exact ⟨retS (cat_mkT [102] _), Hb.out.trans (hb1.mono Hb.out.size)⟩
  rw [tokOk_other o1 o2 o3] at h
  have hr := inB_iff.1 (Bool.and_eq_true _ _ ▸ h).1
  have hk := Bk.new w 40 #[.int .i64 o, .int .i64 n]
  have Hb := hide hbx; have Hk := hide hk; clear hbx hk h
  obtain rfl | rfl | rfl | rfl | rfl | rfl | rfl | rfl : o = 3 ∨ o = 4 ∨ o = 5 ∨ o = 6 ∨ o = 7 ∨ o = 8 ∨ o = 9 ∨ o = 10 := by omega
  · clear o1 o2 o3 hr
    go_enter Tryz.func52, Tryz.ntmps52
    go_wp2_with fail
    have k0 := Hk.out.cell 0
    have kl := Hk.out.lt
    go_region_with (go_at_call 57; refine (spec_l2Words _).mono ?_; rintro e w3 ⟨g, rfl, hk3, hb3⟩; have z3 := hk3.lt; have Hb3 := hide (Hb.out.drew.trans (hb3.mono Hb.out.size)); have k3 := (Hk.out.drew.below hb3).cell 0; have c3 := hk3.cell 3; clear hk3 hb3)
    all_goals
      go_wp2
      go_ret
      exact ⟨rfl, Hb3.out⟩
  · clear o1 o2 o3 hr
    go_enter Tryz.func52, Tryz.ntmps52
    go_wp2_with fail
    have k0 := Hk.out.cell 0
    have kl := Hk.out.lt
    go_region_with (go_at_call 57; refine (spec_l2Words _).mono ?_; rintro e w3 ⟨g, rfl, hk3, hb3⟩; have z3 := hk3.lt; have Hb3 := hide (Hb.out.drew.trans (hb3.mono Hb.out.size)); have k3 := (Hk.out.drew.below hb3).cell 0; have c4 := hk3.cell 4; clear hk3 hb3)
    all_goals
      go_wp2
      go_ret
      exact ⟨rfl, Hb3.out⟩
  · clear o1 o2 o3 hr
    go_enter Tryz.func52, Tryz.ntmps52
    go_wp2_with fail
    have k0 := Hk.out.cell 0
    have kl := Hk.out.lt
    go_region_with (go_at_call 57; refine (spec_l2Words _).mono ?_; rintro e w3 ⟨g, rfl, hk3, hb3⟩; have z3 := hk3.lt; have Hb3 := hide (Hb.out.drew.trans (hb3.mono Hb.out.size)); have k3 := (Hk.out.drew.below hb3).cell 0; have c5 := hk3.cell 5; clear hk3 hb3)
    all_goals
      go_wp2
      go_ret
      exact ⟨rfl, Hb3.out⟩
  · clear o1 o2 o3 hr
    go_enter Tryz.func52, Tryz.ntmps52
    go_wp2_with fail
    have k0 := Hk.out.cell 0
    have kl := Hk.out.lt
    go_region_with (go_at_call 57; refine (spec_l2Words _).mono ?_; rintro e w3 ⟨g, rfl, hk3, hb3⟩; have z3 := hk3.lt; have Hb3 := hide (Hb.out.drew.trans (hb3.mono Hb.out.size)); have k3 := (Hk.out.drew.below hb3).cell 0; have c6 := hk3.cell 6; clear hk3 hb3)
    all_goals
      go_wp2
      go_ret
      exact ⟨rfl, Hb3.out⟩
  · clear o1 o2 o3 hr
    go_enter Tryz.func52, Tryz.ntmps52
    go_wp2_with fail
    have k0 := Hk.out.cell 0
    have kl := Hk.out.lt
    go_region_with (go_at_call 57; refine (spec_l2Words _).mono ?_; rintro e w3 ⟨g, rfl, hk3, hb3⟩; have z3 := hk3.lt; have Hb3 := hide (Hb.out.drew.trans (hb3.mono Hb.out.size)); have k3 := (Hk.out.drew.below hb3).cell 0; have c7 := hk3.cell 7; clear hk3 hb3)
    all_goals
      go_wp2
      go_ret
      exact ⟨rfl, Hb3.out⟩
  · clear o1 o2 o3 hr
    go_enter Tryz.func52, Tryz.ntmps52
    go_wp2_with fail
    have k0 := Hk.out.cell 0
    have kl := Hk.out.lt
    go_region_with (go_at_call 57; refine (spec_l2Words _).mono ?_; rintro e w3 ⟨g, rfl, hk3, hb3⟩; have z3 := hk3.lt; have Hb3 := hide (Hb.out.drew.trans (hb3.mono Hb.out.size)); have k3 := (Hk.out.drew.below hb3).cell 0; have c8 := hk3.cell 8; clear hk3 hb3)
    all_goals
      go_wp2
      go_ret
      exact ⟨rfl, Hb3.out⟩
  · clear o1 o2 o3 hr
    go_enter Tryz.func52, Tryz.ntmps52
    go_wp2_with fail
    have k0 := Hk.out.cell 0
    have kl := Hk.out.lt
    go_region_with (go_at_call 57; refine (spec_l2Words _).mono ?_; rintro e w3 ⟨g, rfl, hk3, hb3⟩; have z3 := hk3.lt; have Hb3 := hide (Hb.out.drew.trans (hb3.mono Hb.out.size)); have k3 := (Hk.out.drew.below hb3).cell 0; have c9 := hk3.cell 9; clear hk3 hb3)
    all_goals
      go_wp2
      go_ret
      exact ⟨rfl, Hb3.out⟩
  · clear o1 o2 o3 hr
    go_enter Tryz.func52, Tryz.ntmps52
    go_wp2_with fail
    have k0 := Hk.out.cell 0
    have kl := Hk.out.lt
    go_region_with (go_at_call 57; refine (spec_l2Words _).mono ?_; rintro e w3 ⟨g, rfl, hk3, hb3⟩; have z3 := hk3.lt; have Hb3 := hide (Hb.out.drew.trans (hb3.mono Hb.out.size)); have k3 := (Hk.out.drew.below hb3).cell 0; have c10 := hk3.cell 10; clear hk3 hb3)
    all_goals
      go_wp2
      go_ret
      exact ⟨rfl, Hb3.out⟩
theorem exprF_end {k : Nat} {l : List P2} : exprF k (l.drop l.length) = [] := by rw [List.drop_length]; rfl
theorem exprF_len {l : List P2} (h : ∀ t ∈ l, tokOk 100 100 t = true) : ∀ k, (exprF k l).length ≤ 12 * l.length := by
  induction l with
  | nil => intro k; simp [exprF]
  | cons t l ih =>
    intro k
    have h1 := tokT_len (h t (by simp))
    have h2 := ih (fun t ht => h t (by simp [ht])) (k + 1)
    simp only [exprF, List.length_append, List.length_cons]
    split
    · omega
    · simp only [List.length_cons]; omega
set_option maxHeartbeats 1600000 in
theorem spec_l2Text (v : Value) (l : List P2) (w : World) (hr : Rd w w.heap.size v l.length (pcells l)) (hok : ∀ t ∈ l, tokOk 100 100 t = true) (hl : l.length ≤ 12) :
    Calls Tryz.prog 29 #[v] w fun e w' => e = .returned (.string ⟨(exprF 0 l).toArray⟩) ∧ Below w.heap.size w w' := by
  obtain ⟨A, c, rfl, hn, hc, hcell⟩ := id hr
  have hlen := exprF_len hok 0
  have Hr := hide hr; have Hok := Lib.hid hok; clear hr hcell hok
  go_enter Tryz.func29, Tryz.ntmps29
  go_wp2
  go_loopw [3, 8] (fun s i wr => ∃ (k : Nat) (acc : List UInt8), k ≤ l.length ∧ i = .int .i64 k ∧ s = .string ⟨acc.toArray⟩ ∧ acc ++ exprF k (l.drop k) = exprF 0 l ∧ Below w.heap.size w wr) (fun _ i _ => l.length - (intOf i).toNat)
  case atStart => exact ⟨0, [], by omega, rfl, rfl, rfl, Below.refl _ _⟩
  case round =>
    obtain ⟨k, acc, hk, rfl, rfl, hacc, hb⟩ := hrel
    have hal : acc.length ≤ 144 := by have := congrArg List.length hacc; rw [List.length_append] at this; omega
    by_cases hlt : k < l.length
    · rw [exprF_step hlt] at hacc
      obtain ⟨b, o, rfl, hbB, s0, s1⟩ := Hr.out.two hlt
      have q0 := (hb.cell (p := ⟨b, o + k * 2, none⟩) hbB).trans s0
      have q1 := (hb.cell (p := ⟨b, o + k * 2 + 1, none⟩) hbB).trans s1
      have hbw : b < wr.heap.size := Nat.lt_of_lt_of_le hbB hb.size
      have ht := Hok.out _ (List.getElem_mem hlt)
      have htl := tokT_len ht
      have hc := fun W => spec_l2TokText l[k].o l[k].n ht W
      have htl2 : (⟨(tokT l[k]).toArray⟩ : ByteArray).size ≤ 11 := by rw [mk_sizeT]; exact htl
      have hal2 : (⟨acc.toArray⟩ : ByteArray).size ≤ 144 := by rw [mk_sizeT]; exact hal
      have hc : ∀ W, Calls Tryz.prog 52 #[.agg #[.int .i64 l[k].o, .int .i64 l[k].n]] W fun e w' => e = .returned (.string ⟨(tokT l[k]).toArray⟩) ∧ Below W.heap.size W w' := hc
      generalize tokT l[k] = T at *
      generalize l[k] = t at *
      obtain ⟨to, tn⟩ := t
      dsimp only at *
      have Hb := hide (hb.alloc hb.size (.cells #[.int .i64 to, .int .i64 tn] 40))
      have HC := Lib.hid hc
      clear s0 s1 hb hc ht
      by_cases h0 : k = 0
      · subst h0
        rw [if_pos rfl] at hacc
        rw [Nat.zero_mul, Nat.add_zero] at q0 q1
        have Hacc := hide hacc; clear hacc
        go_wp2_with (go_at_call 52; refine (HC.out _).mono ?_; rintro e w1 ⟨rfl, hb1⟩)
        go_roundw
        case rel => exact ⟨1, acc ++ T, by omega, by go_num, by rw [cat_mkT], by rw [List.append_assoc]; exact Hacc.out, Hb.out.trans (hb1.mono Hb.out.size)⟩
        case measure => simp [intOf]; omega
      · rw [if_neg h0] at hacc
        have hkp : 0 < k := by omega
        have hcat : (⟨acc.toArray⟩ : ByteArray) ++ ⟨#[32]⟩ = ⟨(acc ++ [32]).toArray⟩ := cat_mkT acc [32]
        have hal3 : (⟨(acc ++ [32]).toArray⟩ : ByteArray).size ≤ 145 := by rw [mk_sizeT]; simp; omega
        have Hacc := hide hacc; clear hacc h0
        go_wp2_with (go_at_call 52; refine (HC.out _).mono ?_; rintro e w1 ⟨rfl, hb1⟩)
        go_roundw
        case rel => exact ⟨k + 1, acc ++ 32 :: T, by omega, by go_num, by rw [cat_mkT]; simp, by rw [List.append_assoc]; exact Hacc.out, Hb.out.trans (hb1.mono Hb.out.size)⟩
        case measure => simp [intOf]; omega
    · obtain rfl : k = l.length := by omega
      rw [exprF_end, List.append_nil] at hacc
      have Hacc := hide hacc; have Hb := hide hb; clear hacc hb
      go_wp2
      go_ret
      exact ⟨retS (by rw [Hacc.out]), Hb.out⟩
theorem tall_step {l : List P2} {k : Nat} (h : k < l.length) : ((l.drop k).all fun t => tokOk 100 100 t) = (tokOk 100 100 l[k] && (l.drop (k + 1)).all fun t => tokOk 100 100 t) := by
  rw [List.drop_eq_getElem_cons h, List.all_cons]
set_option maxHeartbeats 1600000 in
theorem spec_ExprText (v : Value) (l : List P2) (w : World) (hr : Rd w w.heap.size v l.length (pcells l)) (hl : l.length ≤ 9223372036854775807) :
    Calls Tryz.prog 7 #[v] w fun e w' => e = .returned (.tuple #[.string (if exprOk l then ⟨(exprF 0 l).toArray⟩ else ⟨#[]⟩), .bool (exprOk l)]) ∧ Below w.heap.size w w' := by
  obtain ⟨A, c, rfl, hn, hc, hcell⟩ := id hr
  have h0 : exprOk l = false → (if exprOk l then (⟨(exprF 0 l).toArray⟩ : ByteArray) else ⟨#[]⟩) = ⟨#[]⟩ ∧ exprOk l = false := fun h => ⟨by rw [h]; rfl, h⟩
  have h1 : exprOk l = true → (if exprOk l then (⟨(exprF 0 l).toArray⟩ : ByteArray) else ⟨#[]⟩) = ⟨(exprF 0 l).toArray⟩ ∧ exprOk l = true := fun h => ⟨by rw [h]; rfl, h⟩
  have hx : exprOk l = ((l.all fun t => tokOk 100 100 t) && inB l.length 1 12) := rfl
  generalize (if exprOk l then (⟨(exprF 0 l).toArray⟩ : ByteArray) else ⟨#[]⟩) = T at *
  generalize exprOk l = E at *
  have Hr := hide hr; have H0 := Lib.hid h0; have H1 := Lib.hid h1; have HX := hide hx; clear hr hcell h0 h1 hx
  go_enter Tryz.func7, Tryz.ntmps7
  go_wp2
  go_loopw [8] (fun i wr => ∃ k : Nat, k ≤ l.length ∧ i = .int .i64 k ∧ (l.all fun t => tokOk 100 100 t) = ((l.drop k).all fun t => tokOk 100 100 t) ∧ Below w.heap.size w wr) (fun i _ => l.length - (intOf i).toNat)
  case atStart => exact ⟨0, by omega, rfl, rfl, Below.refl _ _⟩
  case round =>
    obtain ⟨k, hk, rfl, hall, hb⟩ := hrel
    by_cases hlt : k < l.length
    · rw [tall_step hlt] at hall
      obtain ⟨b, o, rfl, hbB, s0, s1⟩ := Hr.out.two hlt
      have q0 := (hb.cell (p := ⟨b, o + k * 2, none⟩) hbB).trans s0
      have q1 := (hb.cell (p := ⟨b, o + k * 2 + 1, none⟩) hbB).trans s1
      have hbw : b < wr.heap.size := Nat.lt_of_lt_of_le hbB hb.size
      have hc : ∀ W, Calls Tryz.prog 27 #[.agg #[.int .i64 l[k].o, .int .i64 l[k].n]] W fun e w' => e = .returned (.bool (tokOk 100 100 l[k])) ∧ Below W.heap.size W w' := fun W => spec_l2Token _ _ W
      generalize l[k] = t at *
      generalize tokOk 100 100 t = R at *
      obtain ⟨to, tn⟩ := t
      dsimp only at *
      have Hb := hide (hb.alloc hb.size (.cells #[.int .i64 to, .int .i64 tn] 40))
      have HC := Lib.hid hc
      clear s0 s1 hb hc
      cases R
      · have hno : E = false := by rw [HX.out, hall]; rfl
        have Hno := hide hno
        clear hall hno
        go_wp2_with (go_at_call 27; refine (HC.out _).mono ?_; rintro e w1 ⟨rfl, hb1⟩)
        go_ret2
        exact ⟨retSBT (H0.out Hno.out), Hb.out.trans (hb1.mono Hb.out.size)⟩
      · rw [Bool.true_and] at hall
        have Hall := hide hall; clear hall
        go_wp2_with (go_at_call 27; refine (HC.out _).mono ?_; rintro e w1 ⟨rfl, hb1⟩)
        go_roundw
        case rel => exact ⟨k + 1, by omega, by go_num, Hall.out, Hb.out.trans (hb1.mono Hb.out.size)⟩
        case measure => simp [intOf]; omega
    · obtain rfl : k = l.length := by omega
      rw [List.drop_length] at hall
      have hall2 : (l.all fun t => tokOk 100 100 t) = true := hall
      have he : E = inB l.length 1 12 := by rw [HX.out, hall2]; rfl
      have hin := fun w => spec_l1In l.length 1 12 w
      cases hi : inB (l.length : Int) 1 12
      · simp only [hi] at hin
        have He := hide (he.trans hi)
        have HI := Lib.hid hin; have Hb := hide hb; clear hin hall hall2 he hi hb
        go_wp2_with (go_at_call 28; refine (HI.out _).mono ?_; rintro e w1 ⟨rfl, rfl⟩)
        go_ret2
        exact ⟨retSBT (H0.out He.out), Hb.out⟩
      · have He := hide (he.trans hi)
        have hi2 := inB_iff.1 hi
        simp only [hi] at hin
        have hc := fun W (hW : Below w.heap.size w W) => spec_l2Text _ l W (Hr.out.here hW) (fun t ht => List.all_eq_true.1 hall2 t ht) (by omega)
        have HC := Lib.hid hc
        have HI := Lib.hid hin; have Hb := hide hb; clear hin hall hall2 he hi hb hc hi2
        go_wp2_with (first
          | (go_at_call 28; refine (HI.out _).mono ?_; rintro e w1 ⟨rfl, rfl⟩)
          | (go_at_call 29; refine (HC.out _ Hb.out).mono ?_; rintro e w2 ⟨rfl, hb2⟩))
        go_ret2
        exact ⟨retSBT (H1.out He.out), Hb.out.trans (hb2.mono Hb.out.size)⟩
end Go.Proofs.YtheddnjhkcpmnaaGreatDoor
