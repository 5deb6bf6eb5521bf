
/- Texts drawn for LEB128: what the Go text returns. No condition. -/
import Derived.Test.YtheddnjhkcpmnaaDr
set_option linter.unusedSimpArgs false
set_option linter.unusedVariables false
set_option maxRecDepth 100000
namespace Go.Proofs.Ytheddnjhkcpmnaa
open Go.RowKit

theorem mk_sizeD (l : List UInt8) : (⟨l.toArray⟩ : ByteArray).size = l.length := by simp [ByteArray.size]
def tabT : List ByteArray := [⟨#[]⟩, ⟨#[128]⟩, ⟨#[128, 0]⟩, ⟨#[255, 127]⟩, ⟨#[255, 255, 127]⟩, ⟨#[128, 128, 128, 128, 128, 128, 128, 128, 128, 1]⟩, ⟨#[128, 128, 128, 128, 128, 128, 128, 128, 128, 2]⟩, ⟨#[128, 128, 128, 128, 128, 128, 128, 128, 128, 127]⟩, ⟨#[128, 128, 128, 128, 128, 128, 128, 128, 128, 128, 1]⟩, ⟨#[255, 255, 255, 255, 255, 255, 255, 255, 255, 0]⟩, ⟨#[192, 127]⟩, ⟨#[191, 0]⟩]
def tabA : List ByteArray := [⟨#[]⟩, ⟨#[]⟩, ⟨#[97]⟩]
def tabZ : List ByteArray := [⟨#[]⟩, ⟨#[122]⟩, ⟨#[1]⟩]
theorem tabT_size : ∀ s ∈ tabT, s.size ≤ 12 := by
  intro s hs; simp only [tabT, List.mem_cons, List.not_mem_nil, or_false] at hs
  rcases hs with rfl | rfl | rfl | rfl | rfl | rfl | rfl | rfl | rfl | rfl | rfl | rfl <;> decide
theorem tabA_size : ∀ s ∈ tabA, s.size ≤ 1 := by
  intro s hs; simp only [tabA, List.mem_cons, List.not_mem_nil, or_false] at hs
  rcases hs with rfl | rfl | rfl <;> decide
theorem tabZ_size : ∀ s ∈ tabZ, s.size ≤ 1 := by
  intro s hs; simp only [tabZ, List.mem_cons, List.not_mem_nil, or_false] at hs
  rcases hs with rfl | rfl | rfl <;> decide
theorem str_new (w : World) (ss : List ByteArray) : Bk (w.alloc (.cells (ss.map Value.string).toArray 9)) w.heap.size 9 (ss.map Value.string).toArray := Bk.new w _ _
/-- 'of' with a list made on the spot -/
theorem cur_ofN {g : Nat} {A : Option Addr} {c : Nat} {zs : List Int} {K : Nat} {w : World} (ss : List ByteArray) (hc : Cur g A c zs K w) (hK : K ≤ 3000000000000000000) (h0 : 0 < ss.length) (hl : ss.length ≤ 1000000) :
    Calls Try.prog 106 #[.pointer (some ⟨g, 0, none⟩), .slice (some ⟨w.heap.size, 0, none⟩) ss.length ss.length] (w.alloc (.cells (ss.map Value.string).toArray 9)) (fun e w' => ∃ s : ByteArray, e = .returned (.string s) ∧ s ∈ ss ∧ Cur g A c zs (K + 2) w' ∧ Dw g w w') :=
  (cur_of g A c zs K _ w.heap.size 9 ss (hc.below ((Below.refl _ _).alloc (Nat.le_refl _) _)) hK (str_new w ss) (Nat.ne_of_gt hc.lt) h0 hl).mono fun e w' ⟨s, h1, h2, h3, h4⟩ => ⟨s, h1, h2, h3, ((Dw.refl g w).alloc _).trans h4⟩
theorem cur_ofT {g : Nat} {A : Option Addr} {c : Nat} {zs : List Int} {K : Nat} {w : World} (hc : Cur g A c zs K w) (hK : K ≤ 3000000000000000000) :
    Calls Try.prog 106 #[.pointer (some ⟨g, 0, none⟩), .slice (some ⟨w.heap.size, 0, none⟩) 12 12] (w.alloc (.cells #[.string ⟨#[]⟩, .string ⟨#[128]⟩, .string ⟨#[128, 0]⟩, .string ⟨#[255, 127]⟩, .string ⟨#[255, 255, 127]⟩, .string ⟨#[128, 128, 128, 128, 128, 128, 128, 128, 128, 1]⟩, .string ⟨#[128, 128, 128, 128, 128, 128, 128, 128, 128, 2]⟩, .string ⟨#[128, 128, 128, 128, 128, 128, 128, 128, 128, 127]⟩, .string ⟨#[128, 128, 128, 128, 128, 128, 128, 128, 128, 128, 1]⟩, .string ⟨#[255, 255, 255, 255, 255, 255, 255, 255, 255, 0]⟩, .string ⟨#[192, 127]⟩, .string ⟨#[191, 0]⟩] 9)) (fun e w' => ∃ s : ByteArray, e = .returned (.string s) ∧ s.size ≤ 12 ∧ Cur g A c zs (K + 2) w' ∧ Dw g w w') :=
  (cur_ofN tabT hc hK (by decide) (by decide)).mono fun e w' ⟨s, h1, h2, h3, h4⟩ => ⟨s, h1, tabT_size s h2, h3, h4⟩
theorem cur_ofA {g : Nat} {A : Option Addr} {c : Nat} {zs : List Int} {K : Nat} {w : World} (hc : Cur g A c zs K w) (hK : K ≤ 3000000000000000000) :
    Calls Try.prog 106 #[.pointer (some ⟨g, 0, none⟩), .slice (some ⟨w.heap.size, 0, none⟩) 3 3] (w.alloc (.cells #[.string ⟨#[]⟩, .string ⟨#[]⟩, .string ⟨#[97]⟩] 9)) (fun e w' => ∃ s : ByteArray, e = .returned (.string s) ∧ s.size ≤ 1 ∧ Cur g A c zs (K + 2) w' ∧ Dw g w w') :=
  (cur_ofN tabA hc hK (by decide) (by decide)).mono fun e w' ⟨s, h1, h2, h3, h4⟩ => ⟨s, h1, tabA_size s h2, h3, h4⟩
theorem cur_ofZ {g : Nat} {A : Option Addr} {c : Nat} {zs : List Int} {K : Nat} {w : World} (hc : Cur g A c zs K w) (hK : K ≤ 3000000000000000000) :
    Calls Try.prog 106 #[.pointer (some ⟨g, 0, none⟩), .slice (some ⟨w.heap.size, 0, none⟩) 3 3] (w.alloc (.cells #[.string ⟨#[]⟩, .string ⟨#[122]⟩, .string ⟨#[1]⟩] 9)) (fun e w' => ∃ s : ByteArray, e = .returned (.string s) ∧ s.size ≤ 1 ∧ Cur g A c zs (K + 2) w' ∧ Dw g w w') :=
  (cur_ofN tabZ hc hK (by decide) (by decide)).mono fun e w' ⟨s, h1, h2, h3, h4⟩ => ⟨s, h1, tabZ_size s h2, h3, h4⟩
def TextP (M D : Nat) (g : Nat) (A : Option Addr) (c : Nat) (zs : List Int) (K : Nat) (w : World) (e : Ending) (w' : World) : Prop := ∃ s : ByteArray, e = .returned (.string s) ∧ s.size ≤ M ∧ Cur g A c zs (K + D) w' ∧ Dw g w w'
set_option maxHeartbeats 3200000 in
theorem cur_lebText (g : Nat) (A : Option Addr) (c : Nat) (zs : List Int) (K : Nat) (w : World) (hc : Cur g A c zs K w) (hK : K ≤ 1000000000000000000) :
    Calls Try.prog 69 #[.pointer (some ⟨g, 0, none⟩)] w (TextP 20 100 g A c zs K w) := by
  have Hc := hide hc; have Hd := hide (Dw.refl g w)
  clear hc
  go_enter Try.func69, Try.ntmps69
  go_wp2_with (first
    | (go_at_call 66; refine (cur_sint _ _ _ _ _ _ Hc.out (by omega)).mono ?_; rintro e w1 ⟨n, rfl, ⟨hn1, hn2⟩, hc1, hd1⟩; have Hd := hide (Hd.out.trans hd1); have Hc := hide hc1; clear hc1 hd1)
    | (go_at_call 18; refine (spec_PutS n hn1 hn2 _).mono ?_; rintro e w2 ⟨rfl, hb2⟩; have hs1 := lebs_le n; rw [← mk_sizeD] at hs1; have Hd := hide (Hd.out.then hb2); have Hc := hide (Hc.out.below hb2); generalize (⟨(lebs n).toArray⟩ : ByteArray) = s1 at *; clear hb2 hn1 hn2)
    | (go_at_call 65; refine (cur_one _ _ _ _ _ _ _ Hc.out (by omega) (by decide)).mono ?_; rintro e w3 ⟨b, rfl, hc1, hd1⟩; have Hd := hide (Hd.out.trans hd1); have Hc := hide hc1; clear hc1 hd1)
    | (go_at_call 61; refine (cur_u64 _ _ _ _ _ _ Hc.out (by omega)).mono ?_; rintro e w4 ⟨m, rfl, ⟨hm1, hm2⟩, hc1, hd1⟩; obtain ⟨m, rfl⟩ := Int.eq_ofNat_of_zero_le hm1; have Hd := hide (Hd.out.trans hd1); have Hc := hide hc1; clear hc1 hd1)
    | (go_at_call 12; refine (spec_PutU m (by omega) _).mono ?_; rintro e w5 ⟨rfl, hb2⟩; have hs2 := leb_le m; rw [← mk_sizeD] at hs2; have Hd := hide (Hd.out.then hb2); have Hc := hide (Hc.out.below hb2); generalize (⟨(leb m).toArray⟩ : ByteArray) = s2 at *; clear hb2)
    | (go_at_call 106; with_reducible refine (cur_ofT Hc.out (by omega)).mono ?_; rintro e w6 ⟨s3, rfl, hs3, hc1, hd1⟩; have Hd := hide (Hd.out.trans hd1); have Hc := hide hc1; clear hc1 hd1)
    | (go_at_call 106; with_reducible refine (cur_ofA Hc.out (by omega)).mono ?_; rintro e w7 ⟨s4, rfl, hs4, hc1, hd1⟩; have Hd := hide (Hd.out.trans hd1); have Hc := hide hc1; clear hc1 hd1)
    | (go_at_call 106; with_reducible refine (cur_ofZ Hc.out (by omega)).mono ?_; rintro e w8 ⟨s5, rfl, hs5, hc1, hd1⟩; have Hd := hide (Hd.out.trans hd1); have Hc := hide hc1; clear hc1 hd1))
  all_goals
    go_ret
    exact ⟨_, rfl, by simp only [ByteArray.size_append]; omega, Hc.out.more (by omega), Hd.out⟩
set_option maxHeartbeats 1600000 in
theorem spec_DrawReadU (v : Value) (zs : List Int) (w : World) (hr : Rd w w.heap.size v zs.length (icells .u8 zs)) (hz : ∀ z ∈ zs, 0 ≤ z ∧ z ≤ 255) :
    Calls Try.prog 19 #[v] w fun e w' => ∃ (s : ByteArray) (n : Int), e = .returned (.tuple #[.string s, .int .i64 n]) ∧ s.size ≤ 20 ∧ (-1 ≤ n ∧ n ≤ 1) ∧ Below w.heap.size w w' := by
  obtain ⟨A, c, rfl, hc⟩ := cur_start hr hz
  have Hc := hide hc; have Hd := hide (Dw.refl w.heap.size (w.alloc (.cells #[.slice A zs.length c, .int .i64 0, .int .u64 0] 80)))
  clear hr hc
  go_enter Try.func19, Try.ntmps19
  go_wp2_with (first
    | (go_at_call 69; refine (cur_lebText _ _ _ _ _ _ Hc.out (by decide)).mono ?_; rintro e w1 ⟨s, rfl, hs, hc1, hd1⟩; have Hd := hide (Hd.out.trans hd1); have Hc := hide hc1; clear hc1 hd1)
    | (go_at_call_of 70 (Value.int .i64 2); refine (cur_pick _ _ _ _ _ _ _ Hc.out (by decide) (by decide)).mono ?_; rintro e w2 ⟨x, rfl, ⟨hx1, hx2⟩, hc1, hd1⟩; have hx3 := hx2 (by decide); have Hd := hide (Hd.out.trans hd1); have Hc := hide hc1; clear hc1 hd1 hx2)
    | (go_at_call_of 70 (Value.int .i64 20); refine (cur_pick _ _ _ _ _ _ _ Hc.out (by decide) (by decide)).mono ?_; rintro e w3 ⟨y, rfl, ⟨hy1, hy2⟩, hc1, hd1⟩; have hy3 := hy2 (by decide); have Hd := hide (Hd.out.trans hd1); have Hc := hide hc1; clear hc1 hd1 hy2))
  go_ret2
  exact ⟨s, _, rfl, hs, by omega, dw_below Hd.out⟩
theorem own_byte (b : UInt8) (w : World) : (w.alloc (.cells #[.int .u8 (b.toNat : Int)] 5)).ownsRow w.heap.size 5 1 (.slice (some ⟨w.heap.size, 0, none⟩) 1 1) 1 (bcells [b]) :=
  World.ownsRow_lit (base := w.heap.size) (e := 5) (size := 1) w #[.int .u8 (b.toNat : Int)] 1 (Nat.le_refl _) (by unfold maxLen; omega) rfl
set_option maxHeartbeats 3200000 in
theorem cur_spoilt (g : Nat) (A : Option Addr) (c : Nat) (zs : List Int) (K : Nat) (w : World) (t u : ByteArray) (hc : Cur g A c zs K w) (hK : K ≤ 1000000000000000000) (ht : t.size ≤ 1000000) (hu : 0 < u.size) (hu2 : u.size ≤ 1000000) :
    Calls Try.prog 76 #[.pointer (some ⟨g, 0, none⟩), .string t, .string u] w (TextP (t.size + 2) 100 g A c zs K w) := by
  have Hc := hide hc; have Hd := hide (Dw.refl g w)
  clear hc
  go_enter Try.func76, Try.ntmps76
  go_wp2_with (go_at_call 70; refine (cur_pick _ _ _ _ _ _ _ Hc.out (by omega) (by decide)).mono ?_; rintro e w2 ⟨x, rfl, ⟨hx1, hx2⟩, hc1, hd1⟩; have hx3 := hx2 (by decide); have Hd := hide (Hd.out.trans hd1); have Hc := hide hc1; clear hc1 hd1 hx2)
  go_loopw [1, 7] (fun p n wr => ∃ (s : ByteArray) (j : Nat), j ≤ 2 ∧ s.size + j ≤ t.size + 2 ∧ p = .string s ∧ n = .int .i64 j ∧ Cur g A c zs (K + 30 - 10 * j) wr ∧ Dw g w wr) (fun _ n _ => (intOf n).toNat)
  case atStart => exact ⟨t, (1 + x).toNat, by omega, by omega, rfl, congrArg (Value.int .i64) (by omega), Hc.out.more (by omega), Hd.out⟩
  case round =>
    obtain ⟨s, j, hj, hs, rfl, rfl, hc, hd⟩ := hrel
    have Hc := hide hc; have Hd := hide hd
    clear hc hd
    by_cases h0 : 0 < j ∧ 0 < s.size
    · obtain ⟨h1, h2⟩ := h0
      have h1I : (0 : Int) < (j : Int) := by omega
      have h2I : (0 : Int) < (s.size : Int) := by omega
      go_upto_region 5 with (go_at_call 70; refine (cur_pick _ _ _ _ _ _ _ Hc.out (by omega) (by omega)).mono ?_; rintro e w3 ⟨y, rfl, hy, hc1, hd1⟩; obtain ⟨i, rfl, hi⟩ := pick_nat hy h2; have Hd := hide (Hd.out.trans hd1); have Hc := hide hc1; clear hc1 hd1 hy)
      have hiI : (i : Int) < (s.size : Int) := by omega
      have hi1 : (i : Int) ≤ (s.size : Int) := by omega
      have hi2 : (i : Int) + 1 ≤ (s.size : Int) := by omega
      go_upto_region 6 with (go_at_call 70; refine (cur_pick _ _ _ _ _ _ _ Hc.out (by omega) (by omega)).mono ?_; rintro e w4 ⟨z, rfl, hz, hc1, hd1⟩; obtain ⟨k, rfl, hk⟩ := pick_nat hz hu; have hkI : (k : Int) < (u.size : Int) := Int.ofNat_lt.2 hk; have hk0 : (0 : Int) ≤ (k : Int) := Int.natCast_nonneg k; have hcv := run_str_own Try.underlying22 Try.underlying5 Try.underlying9 (own_byte u[k] w4); have Hd := hide (Hd.out.trans hd1); have Hc := hide hc1; clear hc1 hd1 hz)
      go_upto_region 8 with (go_at_call 70; refine (cur_pick _ _ _ _ _ _ _ (Hc.out.below ((Below.refl _ _).alloc (Nat.le_refl _) _)) (by omega) (by decide)).mono ?_; rintro e w5 ⟨y3, rfl, hy3, hc1, hd1⟩; have Hd := hide ((Hd.out.alloc _).trans hd1); have Hc := hide hc1; clear hc1 hd1 hy3)
      have hsz : ∀ a b : Nat, (s.extract a b).size ≤ b - a := fun a b => by rw [ByteArray.size_extract]; omega
      generalize hB : (⟨#[u[k]]⟩ : ByteArray) = B at *
      have hBs : B.size ≤ 1 := by rw [← hB]; exact Nat.le_refl 1
      have Hsz := Lib.hid hsz
      clear hB hsz hcv
      by_cases c0 : y3 = 0
      · subst c0
        go_wp2_with fail
        go_quiet (fail)
        go_wp2
        go_roundw
        case rel => exact ⟨_, j - 1, by omega, by simp only [ByteArray.size_append, ByteArray.size_extract]; omega, rfl, congrArg (Value.int .i64) (by omega), (Hc.out.below (below_drewN (Below.refl _ _) _)).more (by omega), Hd.out.drewN _⟩
        case measure => simp [intOf]; omega
      · have e0 : (y3 == 0) = false := beq_eq_false_iff_ne.2 c0
        by_cases c1 : y3 = 1
        · subst c1
          clear c0 e0
          go_wp2_with fail
          go_quiet (fail)
          go_wp2
          go_roundw
          case rel => exact ⟨_, j - 1, by omega, by simp only [ByteArray.size_append, ByteArray.size_extract]; omega, rfl, congrArg (Value.int .i64) (by omega), (Hc.out.below (below_drewN (Below.refl _ _) _)).more (by omega), Hd.out.drewN _⟩
          case measure => simp [intOf]; omega
        · have e1 : (y3 == 1) = false := beq_eq_false_iff_ne.2 c1
          clear c0 c1
          go_wp2_with fail
          go_quiet (fail)
          go_wp2
          go_roundw
          case rel => exact ⟨_, j - 1, by omega, by simp only [ByteArray.size_append, ByteArray.size_extract]; omega, rfl, congrArg (Value.int .i64) (by omega), (Hc.out.below (below_drewN (Below.refl _ _) _)).more (by omega), Hd.out.drewN _⟩
          case measure => simp [intOf]; omega
    · by_cases h1 : 0 < j
      · have h1I : (0 : Int) < (j : Int) := by omega
        have h2I : ¬ (0 : Int) < (s.size : Int) := by omega
        go_wp2_with fail
        go_ret
        exact ⟨s, rfl, by omega, Hc.out.more (by omega), Hd.out⟩
      · have h1I : ¬ (0 : Int) < (j : Int) := by omega
        go_wp2_with fail
        go_ret
        exact ⟨s, rfl, by omega, Hc.out.more (by omega), Hd.out⟩
end Go.Proofs.Ytheddnjhkcpmnaa
