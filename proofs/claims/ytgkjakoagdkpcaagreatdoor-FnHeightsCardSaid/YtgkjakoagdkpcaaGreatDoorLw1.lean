
/- spec.ExprText: what the Go text returns. No condition. -/
import Derived.Test.YtgkjakoagdkpcaaGreatDoorWd
import Derived.Test.YtgkjakoagdkpcaaGreatDoorEx
import Derived.Test.YtgkjakoagdkpcaaGreatDoorTokM
import Derived.Deep.RegionHeld3
import Derived.Deep.RegionWith
import Derived.Test.YtgkjakoagdkpcaaGreatDoorImI
set_option linter.unusedSimpArgs false
set_option linter.unusedVariables false
set_option maxRecDepth 100000
namespace Go.Proofs.YtgkjakoagdkpcaaGreatDoor
open Go.RowKit

theorem cat_mkT (a b : List UInt8) : (⟨a.toArray⟩ : ByteArray) ++ ⟨b.toArray⟩ = ⟨(a ++ b).toArray⟩ := by
  apply ByteArray.ext
  simp [ByteArray.data_append]
theorem mk_sizeT (l : List UInt8) : (⟨l.toArray⟩ : ByteArray).size = l.length := by simp [ByteArray.size]
theorem retSBT {s s' : ByteArray} {b b' : Bool} (h : s' = s ∧ b' = b) : Ending.returned (.tuple #[.string s, .bool b]) = .returned (.tuple #[.string s', .bool b']) := by rw [h.1, h.2]
theorem digit (n : Nat) (h : n < 10) : (UInt8.ofNat (48 + n)).toNat = 48 + n := by simp; omega
theorem digit_cells (n : Nat) (h : n < 10) : bcells [UInt8.ofNat (48 + n)] = [.int .u8 (48 + (n : Int))] := by
  unfold bcells; rw [List.map_singleton, digit n h]; congr 2
theorem own_digit (n : Nat) (h : n < 10) (w : World) : (w.alloc (.cells #[.int .u8 (48 + (n : Int))] 5)).ownsRow w.heap.size 5 1 (.slice (some ⟨w.heap.size, 0, none⟩) 1 1) 1 (bcells [UInt8.ofNat (48 + n)]) := by
  rw [digit_cells n h]
  exact World.ownsRow_lit (base := w.heap.size) (e := 5) (size := 1) w #[.int .u8 (48 + (n : Int))] 1 (Nat.le_refl _) (by unfold maxLen; omega) rfl
set_option maxHeartbeats 1600000 in
theorem spec_l1Num_any (k : Nat) : ∀ (n : Nat) (w : World), n < 10 ^ k → 0 < k → k ≤ 10 → Calls Tryz.prog 72 #[.int .i64 (n : Int)] w fun e w' => e = .returned (.string ⟨(num10 n).toArray⟩) ∧ Below w.heap.size w w' := by
  induction k with
  | zero => intro n w _ h; omega
  | succ k ih =>
    intro n w hn _ hk
    by_cases h : n < 10
    · have hcv := run_str_own Tryz.underlying22 Tryz.underlying5 Tryz.underlying9 (own_digit n h w)
      rw [num10_small h]
      generalize UInt8.ofNat (48 + n) = d at *
      clear ih hn
      go_enter Tryz.func72, Tryz.ntmps72
      go_wp2
      go_ret
      exact ⟨rfl, (Below.refl _ _).alloc (Nat.le_refl _) _⟩
    · have hk0 : 0 < k := by
        rcases k with _ | k
        · simp at hn; omega
        · omega
      have hlen := num10_len k (n / 10) (by rw [Nat.pow_succ] at hn; omega) hk0
      have hih := fun W => ih (n / 10) W (by rw [Nat.pow_succ] at hn; omega) hk0 (by omega)
      have hnb : n < 10000000000 := Nat.lt_of_lt_of_le hn (Nat.le_trans (Nat.pow_le_pow_right (by decide) hk) (by decide))
      rw [num10_more h]
      have hL : ∀ L : List UInt8, L.length ≤ k → (⟨L.toArray⟩ : ByteArray).size ≤ k := fun L h => by rw [mk_sizeT]; exact h
      have hl2 := hL _ hlen
      generalize num10 (n / 10) = L at *
      have hcv := fun (W : World) => run_str_own Tryz.underlying22 Tryz.underlying5 Tryz.underlying9 (own_digit (n % 10) (by omega) W)
      have e1 : ((n % 10 : Nat) : Int) = IntKind.u8.wrap (IntKind.i64.wrap (48 + (n : Int).tmod 10)) - 48 := by
        rw [Int.tmod_eq_emod_of_nonneg (by omega), IntKind.wrap_i64, IntKind.wrap_u8]; omega
      have e2 : ((n / 10 : Nat) : Int) = IntKind.i64.wrap ((n : Int).tdiv 10) := by
        rw [Int.tdiv_eq_ediv_of_nonneg (by omega), IntKind.wrap_i64]; omega
      have hod := own_digit (n % 10) (by omega)
      rw [e1] at hod
      simp only [show ∀ x : Int, 48 + (x - 48) = x from fun x => by omega] at hod
      rw [e2] at hih
      have hn0 : (0 : Int) ≤ n := by omega
      have hnb' : (n : Int) < 10000000000 := by omega
      have h10 : (10 : Int) ≤ n := by omega
      generalize UInt8.ofNat (48 + n % 10) = d at *
      clear hcv e1 e2
      generalize (n : Int) = z at *
      have hcv := fun (W : World) => run_str_own Tryz.underlying22 Tryz.underlying5 Tryz.underlying9 (hod W)
      have hodw : (w.drew.alloc (.cells #[.int .u8 (IntKind.u8.wrap (IntKind.i64.wrap (48 + z.tmod 10)))] 5)).ownsRow w.heap.size 5 1 (.slice (some ⟨w.heap.size, 0, none⟩) 1 1) 1 (bcells [d]) := hod w.drew
      have hodd : ((w.alloc (.cells #[.int .u8 (IntKind.u8.wrap (IntKind.i64.wrap (48 + z.tmod 10)))] 5)).drew).ownsRow w.heap.size 5 1 (.slice (some ⟨w.heap.size, 0, none⟩) 1 1) 1 (bcells [d]) := hod w
      have hcw := run_str_own Tryz.underlying22 Tryz.underlying5 Tryz.underlying9 hodd
      have Hih := Lib.hid hih; have Hod := hide hodd
      clear ih hn hih hk0 hL h hnb hod hodw hodd
      go_enter Tryz.func72, Tryz.ntmps72
      go_wp2
      go_region_with (go_at_call 72; refine (Hih.out _).mono ?_; rintro e w3 ⟨rfl, hb3⟩; (try have hc3 := run_str_own Tryz.underlying22 Tryz.underlying5 Tryz.underlying9 (own_keep Hod.out hb3)))
      all_goals
        go_wp2
        go_ret
        refine ⟨retS (cat_mkT _ _), ?_⟩
        first
        | exact (((Below.refl w.heap.size w).drew.trans hb3)).alloc (by have := hb3.size; simpa using this) _
        | exact (((Below.refl w.heap.size w).alloc (Nat.le_refl _) _).drew).trans (hb3.mono (by simp))
theorem spec_l1Num (n : Nat) (hn : n < 10000000000) (w : World) : Calls Tryz.prog 72 #[.int .i64 (n : Int)] w fun e w' => e = .returned (.string ⟨(num10 n).toArray⟩) ∧ Below w.heap.size w w' :=
  spec_l1Num_any 10 n w (by simpa using hn) (by decide) (by decide)
theorem small_nat {n : Int} (h1 : 0 ≤ n) : n = ((n.toNat : Nat) : Int) := by omega
set_option maxHeartbeats 800000 in
theorem spec_l2Int (n : Int) (h1 : -2147483648 ≤ n) (h2 : n ≤ 2147483647) (w : World) : Calls Tryz.prog 43 #[.int .i64 n] w fun e w' => e = .returned (.string ⟨(intT n).toArray⟩) ∧ Below w.heap.size w w' := by
  by_cases h : n < 0
  · have hc := fun W => spec_l1Num (-n).toNat (by omega) W
    have hlen := num10_len 10 (-n).toNat (by omega) (by decide)
    rw [← small_nat (by omega)] at hc
    rw [show intT n = 45 :: num10 (-n).toNat from if_pos h]
    have hl2 : (⟨(num10 (-n).toNat).toArray⟩ : ByteArray).size ≤ 10 := by rw [mk_sizeT]; exact hlen
    generalize num10 (-n).toNat = L at *
    have HC := Lib.hid hc; clear hc
    go_enter Tryz.func43, Tryz.ntmps43
    go_wp2_with (go_at_call 72; refine (HC.out _).mono ?_; rintro e w1 ⟨rfl, hb1⟩)
    go_ret
    exact ⟨retS (cat_mkT [45] _), hb1⟩
  · have hc := fun W => spec_l1Num n.toNat (by omega) W
    rw [← small_nat (by omega)] at hc
    rw [show intT n = num10 n.toNat from if_neg h]
    generalize num10 n.toNat = L at *
    have HC := Lib.hid hc; clear hc
    go_enter Tryz.func43, Tryz.ntmps43
    go_wp2_with (go_at_call 72; refine (HC.out _).mono ?_; rintro e w1 ⟨rfl, hb1⟩)
    go_ret
    exact ⟨rfl, hb1⟩
theorem exprF_end {k : Nat} {l : List P2} : exprF k (l.drop l.length) = [] := by rw [List.drop_length]; rfl
theorem exprF_len {l : List P2} (h : ∀ t ∈ l, tokOk 100 100 t = true) : ∀ k, (exprF k l).length ≤ 12 * l.length := by
  induction l with
  | nil => intro k; simp [exprF]
  | cons t l ih =>
    intro k
    have h1 := tokT_len (h t (by simp))
    have h2 := ih (fun t ht => h t (by simp [ht])) (k + 1)
    simp only [exprF, List.length_append, List.length_cons]
    split
    · omega
    · simp only [List.length_cons]; omega
theorem tall_step {l : List P2} {k : Nat} (h : k < l.length) : ((l.drop k).all fun t => tokOk 100 100 t) = (tokOk 100 100 l[k] && (l.drop (k + 1)).all fun t => tokOk 100 100 t) := by
  rw [List.drop_eq_getElem_cons h, List.all_cons]
end Go.Proofs.YtgkjakoagdkpcaaGreatDoor
set_option linter.unusedSimpArgs false
set_option linter.unusedVariables false
set_option maxRecDepth 100000
namespace Go.Proofs.YtgkjakoagdkpcaaGreatDoor
open Go.RowKit

def insW : List ByteArray := [⟨#[]⟩, ⟨#[110, 117, 109]⟩, ⟨#[118, 97, 114]⟩, ⟨#[115, 101, 116]⟩, ⟨#[114, 101, 99, 107, 111, 110]⟩, ⟨#[105, 110, 112, 117, 116]⟩, ⟨#[114, 101, 99, 111, 118, 101, 114]⟩, ⟨#[99, 97, 108, 108]⟩, ⟨#[112, 114, 105, 110, 116]⟩, ⟨#[100, 114, 111, 112]⟩, ⟨#[106, 117, 109, 112]⟩, ⟨#[117, 110, 108, 101, 115, 115]⟩, ⟨#[112, 117, 116]⟩, ⟨#[112, 97, 110, 105, 99]⟩, ⟨#[101, 120, 105, 116]⟩, ⟨#[114, 101, 115, 117, 108, 116]⟩, ⟨#[108, 101, 97, 118, 101]⟩, ⟨#[111, 102, 102]⟩, ⟨#[101, 110, 100]⟩]
theorem insW_length : insW.length = 19 := rfl
theorem insW_size : ∀ s ∈ insW, s.size ≤ 10 := by
  intro s hs; simp only [insW, List.mem_cons, List.not_mem_nil, or_false] at hs
  rcases hs with rfl | rfl | rfl | rfl | rfl | rfl | rfl | rfl | rfl | rfl | rfl | rfl | rfl | rfl | rfl | rfl | rfl | rfl | rfl <;> decide
/-- the program's words lie in their variable -/
def InsWs (w : World) : Prop := 0 < w.heap.size ∧ ∀ k (h : k < insW.length), w.cell? ⟨0, k, none⟩ = some (.string insW[k])
def insS (o n : Int) : ByteArray := if hasNB o = true then insW.getD o.toNat ⟨#[]⟩ ++ ⟨#[32]⟩ ++ ⟨(intT n).toArray⟩ else insW.getD o.toNat ⟨#[]⟩
theorem insS_yes {k : Nat} {n : Int} (h : hasNB (k : Int) = true) (hk : k < insW.length) : insS k n = insW[k] ++ ⟨#[32]⟩ ++ ⟨(intT n).toArray⟩ := by
  unfold insS; rw [if_pos h, Int.toNat_natCast]; simp [List.getD, List.getElem?_eq_getElem hk]
theorem insS_no {k : Nat} {n : Int} (h : hasNB (k : Int) = false) (hk : k < insW.length) : insS k n = insW[k] := by
  unfold insS; rw [if_neg (by rw [h]; simp), Int.toNat_natCast]; simp [List.getD, List.getElem?_eq_getElem hk]
theorem insOk_small {o n : Int} (h : insOk ⟨o, n⟩ = true) : -2147483648 ≤ n ∧ n ≤ 2147483647 := by
  unfold insOk at h
  dsimp only at h
  split at h
  · unfold smallB at h; exact inB_iff.1 h
  · split at h
    · have := inB_iff.1 h; omega
    · split at h
      · have := inB_iff.1 h; omega
      · have := of_decide_eq_true (Bool.and_eq_true _ _ ▸ h).2; omega
structure HoI (w : World) (o n : Int) (W : World) : Prop where
  b : Below w.heap.size w W
  k : Bk W w.heap.size 41 #[.int .i64 o, .int .i64 n]
theorem HoI.start (w : World) (o n : Int) : HoI w o n (w.alloc (.cells #[.int .i64 o, .int .i64 n] 41)) := ⟨(Below.refl _ _).alloc (Nat.le_refl _) _, Bk.new w _ _⟩
theorem HoI.below {w : World} {o n : Int} {W W1 : World} (h : HoI w o n W) (hb : Below W.heap.size W W1) : HoI w o n W1 := ⟨h.b.trans (hb.mono h.b.size), h.k.below hb⟩
theorem HoI.drew {w : World} {o n : Int} {W : World} (h : HoI w o n W) : HoI w o n W.drew := h.below (Below.refl _ _).drew
theorem P10.below {w W : World} (h : P10 w) (hb : Below w.heap.size w W) (hg : 1 < w.heap.size) : P10 W := var?_below hb (by kernel_rfl) hg h
set_option maxHeartbeats 3200000 in
theorem impl_insText (o n : Int) (w : World) (hok : insOk ⟨o, n⟩ = true) (ht : P10 w) (hg : 1 < w.heap.size) (hw : InsWs w) :
    Calls Tryz.prog 40 #[.agg #[.int .i64 o, .int .i64 n]] w fun e w' => e = .returned (.string (insS o n)) ∧ Below w.heap.size w w' := by
  obtain ⟨hg0, hc⟩ := hw
  have ho := insOk_bd hok
  dsimp only at ho
  have hn := insOk_small hok
  obtain ⟨k, rfl⟩ := Int.eq_ofNat_of_zero_le (show 0 ≤ o by omega)
  have hk : k < insW.length := by rw [insW_length]; omega
  have hI := fun W (hW : Below w.heap.size w W) => strconv_Itoa n hn.1 hn.2 W (ht.below hW hg)
  have hN := fun W => impl_hasN (k : Int) W
  have hcw := hc k hk
  have hsz := insW_size _ (List.getElem_mem hk)
  have hy := fun h => @insS_yes k n h hk
  have hno := fun h => @insS_no k n h hk
  have hTl := intT_len (n := n) (by omega) (by omega)
  rw [← mk_sizeT] at hTl
  generalize (⟨(intT n).toArray⟩ : ByteArray) = T at *
  generalize insW[k] = B at *
  have s1 : ¬ 9223372036854775807 < B.size + 1 := by omega
  have s2 : ¬ 9223372036854775807 < B.size + 1 + T.size := by omega
  have hk1 : (k : Int) < 19 := by omega
  have hk0 : (0 : Int) ≤ (k : Int) := by omega
  have Hs := hide (HoI.start w k n)
  have HI := Lib.hid hI
  clear hI hc ht hok ho hn
  cases hh : hasNB (k : Int)
  · simp only [hh] at hN
    have HS := hide (hno hh); have HN := Lib.hid hN
    clear hN hy hno hh HI
    have hcW := (Hs.out.b.cell (p := ⟨0, k, none⟩) hg0).trans hcw
    go_enter Tryz.func40, Tryz.ntmps40
    go_wp2_with (go_at_call 64; refine (HN.out _).mono ?_; rintro e w1 ⟨rfl, rfl⟩)
    go_ret
    exact ⟨retS HS.out.symm, Hs.out.b⟩
  · simp only [hh] at hN
    have HS := hide (hy hh); have HN := Lib.hid hN
    have SM : ∀ w', HoI w k n w' → w'.cell? ⟨w.heap.size, 0, none⟩ = some (.int .i64 k) ∧ w'.cell? ⟨w.heap.size, 1, none⟩ = some (.int .i64 n) ∧ w'.cell? ⟨0, k, none⟩ = some (.string B) ∧ HoI w k n w' := fun W h => ⟨h.k.cell 0, h.k.cell 1, (h.b.cell (p := ⟨0, k, none⟩) hg0).trans hcw, h⟩
    have HSM := Lib.hid SM
    clear hN hy hno hh SM
    go_enter Tryz.func40, Tryz.ntmps40
    go_wp2_with (go_at_call 64; refine (HN.out _).mono ?_; rintro e w1 ⟨rfl, rfl⟩)
    go_region_held3 (fun w' => w'.cell? ⟨w.heap.size, 0, none⟩ = some (.int .i64 k) ∧ w'.cell? ⟨w.heap.size, 1, none⟩ = some (.int .i64 n) ∧ w'.cell? ⟨0, k, none⟩ = some (.string B) ∧ HoI w k n w')
      (first
        | with_reducible exact HSM.out _ Hs.out.drew
        | with_reducible exact HSM.out _ Ho1.out)
      ((go_at_call 71; refine (HI.out _ Hs.out.drew.b).mono ?_; rintro e w1 ⟨rfl, hb1⟩; have Ho1 := hide (Hs.out.drew.below hb1); clear hb1))
    all_goals
      go_wp2
      go_ret
      exact ⟨retS HS.out.symm, Ho1.out.b⟩
end Go.Proofs.YtgkjakoagdkpcaaGreatDoor
set_option linter.unusedSimpArgs false
set_option linter.unusedVariables false
set_option maxRecDepth 100000
namespace Go.Proofs.YtgkjakoagdkpcaaGreatDoor
open Go.RowKit

def isT (o n : Int) : ByteArray := if insOk ⟨o, n⟩ = true then insS o n else ⟨#[]⟩
theorem isT_yes {o n : Int} (h : insOk ⟨o, n⟩ = true) : isT o n = insS o n := if_pos h
theorem isT_no {o n : Int} (h : insOk ⟨o, n⟩ = false) : isT o n = ⟨#[]⟩ := if_neg (by rw [h]; simp)
set_option maxHeartbeats 1600000 in
theorem impl_InsText (o n : Int) (w : World) (ht : P10 w) (hg : 1 < w.heap.size) (hw : InsWs w) :
    Calls Tryz.prog 20 #[.agg #[.int .i64 o, .int .i64 n]] w fun e w' => e = .returned (.tuple #[.string (isT o n), .bool (insOk ⟨o, n⟩)]) ∧ Below w.heap.size w w' := by
  have hI := fun W => impl_isIns o n W
  have hT := fun W (hW : Below w.heap.size w W) (h : insOk ⟨o, n⟩ = true) => impl_insText o n W h (ht.below hW hg) (Nat.lt_of_lt_of_le hg hW.size) ⟨Nat.lt_of_lt_of_le hw.1 hW.size, fun k hk => (hW.cell (p := ⟨0, k, none⟩) hw.1).trans (hw.2 k hk)⟩
  have hy := @isT_yes o n; have hno := @isT_no o n
  generalize isT o n = S at *
  have Hs := hide (HoI.start w o n)
  cases hi : insOk ⟨o, n⟩
  · simp only [hi] at hI
    have HS := hide (hno hi); have HI := Lib.hid hI
    clear hI hT hy hno hi ht hw
    go_enter Tryz.func20, Tryz.ntmps20
    go_wp2_with (go_at_call 31; refine (HI.out _).mono ?_; rintro e w1 ⟨rfl, hb1⟩; have Ho := hide (Hs.out.below hb1); clear hb1)
    go_ret2
    exact ⟨retSBT ⟨HS.out, rfl⟩, Ho.out.b⟩
  · have hT' := fun W hW => hT W hW hi
    simp only [hi] at hI
    have HS := hide (hy hi); have HI := Lib.hid hI; have HT := Lib.hid hT'
    clear hI hT hT' hy hno hi ht hw
    generalize insS o n = S' at *
    go_enter Tryz.func20, Tryz.ntmps20
    go_wp2_with (first
      | (go_at_call 31; refine (HI.out _).mono ?_; rintro e w1 ⟨rfl, hb1⟩; have Ho := hide (Hs.out.below hb1); have k0 := Ho.out.k.cell 0; have k1 := Ho.out.k.cell 1; have kl := Ho.out.k.lt; clear hb1)
      | (go_at_call 40; refine (HT.out _ Ho.out.b).mono ?_; rintro e w2 ⟨rfl, hb2⟩; have Hb := hide (Ho.out.b.trans (hb2.mono Ho.out.b.size)); clear hb2))
    go_ret2
    exact ⟨retSBT ⟨HS.out, rfl⟩, Hb.out⟩
theorem spec_l5Words (w : World) : Calls Tryz.prog 42 #[] w fun e w' => ∃ g : Nat, e = .returned (.slice (some ⟨g, 0, none⟩) 19 19) ∧ Bk w' g 9 (insW.map Value.string).toArray ∧ Below w.heap.size w w' := by
  go_enter Tryz.func42, Tryz.ntmps42
  go_wp2
  go_ret
  exact ⟨_, rfl, Bk.new _ _ _, (Below.refl _ _).alloc (Nat.le_refl _) _⟩
set_option maxHeartbeats 6400000 in
theorem spec_InsText (o n : Int) (w : World) :
    Calls Tryz.prog 21 #[.agg #[.int .i64 o, .int .i64 n]] w fun e w' => e = .returned (.tuple #[.string (isT o n), .bool (insOk ⟨o, n⟩)]) ∧ Below w.heap.size w w' := by
  have hI := fun W => spec_l5Ins o n W
  have hy := @isT_yes o n; have hno := @isT_no o n
  generalize isT o n = S at *
  have Hs := hide (HoI.start w o n)
  cases hi : insOk ⟨o, n⟩
  · simp only [hi] at hI
    have HS := hide (hno hi); have HI := Lib.hid hI
    clear hI hy hno hi
    go_enter Tryz.func21, Tryz.ntmps21
    go_wp2_with (go_at_call 36; refine (HI.out _).mono ?_; rintro e w1 ⟨rfl, hb1⟩; have Ho := hide (Hs.out.below hb1); clear hb1)
    go_ret2
    exact ⟨retSBT ⟨HS.out, rfl⟩, Ho.out.b⟩
  have ho := insOk_bd hi
  dsimp only at ho
  have hn := insOk_small hi
  have hL := fun W => spec_l2Int n hn.1 hn.2 W
  obtain ⟨k, rfl⟩ := Int.eq_ofNat_of_zero_le (show 0 ≤ o by omega)
  have hk : k < insW.length := by rw [insW_length]; omega
  have hN := fun W => spec_l5HasN (k : Int) W
  have hsz := insW_size _ (List.getElem_mem hk)
  have hS := hy hi
  have hSy := fun h => @insS_yes k n h hk
  have hSn := fun h => @insS_no k n h hk
  have hTl := intT_len (n := n) (by omega) (by omega)
  rw [← mk_sizeT] at hTl
  have hBk : ∀ W q, Bk W q 9 (insW.map Value.string).toArray → W.cell? ⟨q, k, none⟩ = some (.string insW[k]) := fun W q h => (h.cell k).trans (by simp [hk])
  generalize (⟨(intT n).toArray⟩ : ByteArray) = T at *
  generalize insW[k] = B at *
  have s1 : ¬ 9223372036854775807 < B.size + 1 := by omega
  have s2 : ¬ 9223372036854775807 < B.size + 1 + T.size := by omega
  have hk1 : (k : Int) < 19 := by omega
  have hk0 : (0 : Int) ≤ (k : Int) := by omega
  simp only [hi] at hI
  have HI := Lib.hid hI; have HL := Lib.hid hL; have HBk := Lib.hid hBk
  have SM : ∀ w', HoI w k n w' → w'.cell? ⟨w.heap.size, 0, none⟩ = some (.int .i64 k) ∧ w'.cell? ⟨w.heap.size, 1, none⟩ = some (.int .i64 n) ∧ HoI w k n w' := fun W h => ⟨h.k.cell 0, h.k.cell 1, h⟩
  have HSM := Lib.hid SM
  clear hI hL hBk hy hno hi ho hn SM
  cases hh : hasNB (k : Int)
  · have HS := hide (hS.trans (hSn hh))
    simp only [hh] at hN
    have HN := Lib.hid hN
    clear hN hS hSy hSn hh HL
    go_enter Tryz.func21, Tryz.ntmps21
    go_wp2_with (first
      | (go_at_call 36; refine (HI.out _).mono ?_; rintro e w1 ⟨rfl, hb1⟩; have Ho := hide (Hs.out.below hb1); have k0 := Ho.out.k.cell 0; have kl := Ho.out.k.lt; clear hb1)
      | (go_at_call 41; refine (HN.out _).mono ?_; rintro e w2 ⟨rfl, rfl⟩))
    have Ho := hide Ho.out.drew
    go_region_with (go_at_call 42; refine (spec_l5Words _).mono ?_; rintro e w3 ⟨q, rfl, hq, hb1⟩; have Ho := hide (Ho.out.below hb1); have k0 := Ho.out.k.cell 0; have c3 := HBk.out _ _ hq; have cl := hq.lt; clear hq hb1)
    all_goals
      go_wp2
      go_ret2
      exact ⟨retSBT ⟨HS.out, rfl⟩, Ho.out.b⟩
  · have HS := hide (hS.trans (hSy hh))
    simp only [hh] at hN
    have HN := Lib.hid hN
    clear hN hS hSy hSn hh
    go_enter Tryz.func21, Tryz.ntmps21
    go_wp2_with (first
      | (go_at_call 36; refine (HI.out _).mono ?_; rintro e w1 ⟨rfl, hb1⟩; have Ho := hide (Hs.out.below hb1); have k0 := Ho.out.k.cell 0; have kl := Ho.out.k.lt; clear hb1)
      | (go_at_call 41; refine (HN.out _).mono ?_; rintro e w2 ⟨rfl, rfl⟩))
    have k1 := Ho.out.k.cell 1
    have Ho := hide Ho.out.drew
    go_region_with (first
        | (go_at_call 42; refine (spec_l5Words _).mono ?_; rintro e w3 ⟨q, rfl, hq, hb1⟩; have Ho := hide (Ho.out.below hb1); have k0 := Ho.out.k.cell 0; have k1 := Ho.out.k.cell 1; have c3 := HBk.out _ _ hq; have cl := hq.lt; have Hq := hide hq; clear hq hb1)
        | (go_at_call 43; refine (HL.out _).mono ?_; rintro e w4 ⟨rfl, hb1⟩; (try have Hq := hide (Hq.out.below hb1)); (try have c3 := HBk.out _ _ Hq.out); (try have cl := Hq.out.lt); have Ho := hide (Ho.out.below hb1); have k0 := Ho.out.k.cell 0; have k1 := Ho.out.k.cell 1; clear hb1))
    all_goals
      go_wp2
      go_ret2
      exact ⟨retSBT ⟨HS.out, rfl⟩, Ho.out.b⟩
end Go.Proofs.YtgkjakoagdkpcaaGreatDoor
