
/- Texts drawn for LEB128: what the Go text returns. No condition. -/
import Derived.Test.YtheddnjhkcpmnaaGreatDoorDr2
set_option linter.unusedSimpArgs false
set_option linter.unusedVariables false
set_option maxRecDepth 100000
namespace Go.Proofs.YtheddnjhkcpmnaaGreatDoor
open Go.RowKit

theorem mk_sizeD (l : List UInt8) : (⟨l.toArray⟩ : ByteArray).size = l.length := by simp [ByteArray.size]
def tabT : List ByteArray := [⟨#[]⟩, ⟨#[128]⟩, ⟨#[128, 0]⟩, ⟨#[255, 127]⟩, ⟨#[255, 255, 127]⟩, ⟨#[128, 128, 128, 128, 128, 128, 128, 128, 128, 1]⟩, ⟨#[128, 128, 128, 128, 128, 128, 128, 128, 128, 2]⟩, ⟨#[128, 128, 128, 128, 128, 128, 128, 128, 128, 127]⟩, ⟨#[128, 128, 128, 128, 128, 128, 128, 128, 128, 128, 1]⟩, ⟨#[255, 255, 255, 255, 255, 255, 255, 255, 255, 0]⟩, ⟨#[192, 127]⟩, ⟨#[191, 0]⟩]
def tabA : List ByteArray := [⟨#[]⟩, ⟨#[]⟩, ⟨#[97]⟩]
def tabZ : List ByteArray := [⟨#[]⟩, ⟨#[122]⟩, ⟨#[1]⟩]
theorem tabT_size : ∀ s ∈ tabT, s.size ≤ 12 := by
  intro s hs; simp only [tabT, List.mem_cons, List.not_mem_nil, or_false] at hs
  rcases hs with rfl | rfl | rfl | rfl | rfl | rfl | rfl | rfl | rfl | rfl | rfl | rfl <;> decide
theorem tabA_size : ∀ s ∈ tabA, s.size ≤ 1 := by
  intro s hs; simp only [tabA, List.mem_cons, List.not_mem_nil, or_false] at hs
  rcases hs with rfl | rfl | rfl <;> decide
theorem tabZ_size : ∀ s ∈ tabZ, s.size ≤ 1 := by
  intro s hs; simp only [tabZ, List.mem_cons, List.not_mem_nil, or_false] at hs
  rcases hs with rfl | rfl | rfl <;> decide
theorem str_new (w : World) (ss : List ByteArray) : Bk (w.alloc (.cells (ss.map Value.string).toArray 9)) w.heap.size 9 (ss.map Value.string).toArray := Bk.new w _ _
def TextP (M D : Nat) (g : Nat) (A : Option Addr) (c : Nat) (zs : List Int) (K : Nat) (w : World) (e : Ending) (w' : World) : Prop := ∃ s : ByteArray, e = .returned (.string s) ∧ s.size ≤ M ∧ Cur g A c zs (K + D) w' ∧ Dw g w w'
theorem own_byte (b : UInt8) (w : World) : (w.alloc (.cells #[.int .u8 (b.toNat : Int)] 5)).ownsRow w.heap.size 5 1 (.slice (some ⟨w.heap.size, 0, none⟩) 1 1) 1 (bcells [b]) :=
  World.ownsRow_lit (base := w.heap.size) (e := 5) (size := 1) w #[.int .u8 (b.toNat : Int)] 1 (Nat.le_refl _) (by unfold maxLen; omega) rfl
set_option maxHeartbeats 3200000 in
theorem cur_spoilt (g : Nat) (A : Option Addr) (c : Nat) (zs : List Int) (K : Nat) (w : World) (t u : ByteArray) (hc : Cur g A c zs K w) (hK : K ≤ 1000000000000000000) (ht : t.size ≤ 1000000) (hu : 0 < u.size) (hu2 : u.size ≤ 1000000) :
    Calls Tryz.prog 32 #[.pointer (some ⟨g, 0, none⟩), .string t, .string u] w (TextP (t.size + 2) 100 g A c zs K w) := by
  have Hc := hide hc; have Hd := hide (Dw.refl g w)
  clear hc
  go_enter Tryz.func32, Tryz.ntmps32
  go_wp2_with (go_at_call 39; refine (cur_pick _ _ _ _ _ _ _ Hc.out (by omega) (by decide)).mono ?_; rintro e w2 ⟨x, rfl, ⟨hx1, hx2⟩, hc1, hd1⟩; have hx3 := hx2 (by decide); have Hd := hide (Hd.out.trans hd1); have Hc := hide hc1; clear hc1 hd1 hx2)
  go_loopw [1, 7] (fun p n wr => ∃ (s : ByteArray) (j : Nat), j ≤ 2 ∧ s.size + j ≤ t.size + 2 ∧ p = .string s ∧ n = .int .i64 j ∧ Cur g A c zs (K + 30 - 10 * j) wr ∧ Dw g w wr) (fun _ n _ => (intOf n).toNat)
  case atStart => exact ⟨t, (1 + x).toNat, by omega, by omega, rfl, congrArg (Value.int .i64) (by omega), Hc.out.more (by omega), Hd.out⟩
  case round =>
    obtain ⟨s, j, hj, hs, rfl, rfl, hc, hd⟩ := hrel
    have Hc := hide hc; have Hd := hide hd
    clear hc hd
    by_cases h0 : 0 < j ∧ 0 < s.size
    · obtain ⟨h1, h2⟩ := h0
      have h1I : (0 : Int) < (j : Int) := by omega
      have h2I : (0 : Int) < (s.size : Int) := by omega
      go_upto_region 5 with (go_at_call 39; refine (cur_pick _ _ _ _ _ _ _ Hc.out (by omega) (by omega)).mono ?_; rintro e w3 ⟨y, rfl, hy, hc1, hd1⟩; obtain ⟨i, rfl, hi⟩ := pick_nat hy h2; have Hd := hide (Hd.out.trans hd1); have Hc := hide hc1; clear hc1 hd1 hy)
      have hiI : (i : Int) < (s.size : Int) := by omega
      have hi1 : (i : Int) ≤ (s.size : Int) := by omega
      have hi2 : (i : Int) + 1 ≤ (s.size : Int) := by omega
      go_upto_region 6 with (go_at_call 39; refine (cur_pick _ _ _ _ _ _ _ Hc.out (by omega) (by omega)).mono ?_; rintro e w4 ⟨z, rfl, hz, hc1, hd1⟩; obtain ⟨k, rfl, hk⟩ := pick_nat hz hu; have hkI : (k : Int) < (u.size : Int) := Int.ofNat_lt.2 hk; have hk0 : (0 : Int) ≤ (k : Int) := Int.natCast_nonneg k; have hcv := run_str_own Tryz.underlying22 Tryz.underlying5 Tryz.underlying9 (own_byte u[k] w4); have Hd := hide (Hd.out.trans hd1); have Hc := hide hc1; clear hc1 hd1 hz)
      go_upto_region 8 with (go_at_call 39; refine (cur_pick _ _ _ _ _ _ _ (Hc.out.below ((Below.refl _ _).alloc (Nat.le_refl _) _)) (by omega) (by decide)).mono ?_; rintro e w5 ⟨y3, rfl, hy3, hc1, hd1⟩; have Hd := hide ((Hd.out.alloc _).trans hd1); have Hc := hide hc1; clear hc1 hd1 hy3)
      have hsz : ∀ a b : Nat, (s.extract a b).size ≤ b - a := fun a b => by rw [ByteArray.size_extract]; omega
      generalize hB : (⟨#[u[k]]⟩ : ByteArray) = B at *
      have hBs : B.size ≤ 1 := by rw [← hB]; exact Nat.le_refl 1
      have Hsz := Lib.hid hsz
      clear hB hsz hcv
      by_cases c0 : y3 = 0
      · subst c0
        go_wp2_with fail
        go_quiet (fail)
        go_wp2
        go_roundw
        case rel => exact ⟨_, j - 1, by omega, by simp only [ByteArray.size_append, ByteArray.size_extract]; omega, rfl, congrArg (Value.int .i64) (by omega), (Hc.out.below (below_drewN (Below.refl _ _) _)).more (by omega), Hd.out.drewN _⟩
        case measure => simp [intOf]; omega
      · have e0 : (y3 == 0) = false := beq_eq_false_iff_ne.2 c0
        by_cases c1 : y3 = 1
        · subst c1
          clear c0 e0
          go_wp2_with fail
          go_quiet (fail)
          go_wp2
          go_roundw
          case rel => exact ⟨_, j - 1, by omega, by simp only [ByteArray.size_append, ByteArray.size_extract]; omega, rfl, congrArg (Value.int .i64) (by omega), (Hc.out.below (below_drewN (Below.refl _ _) _)).more (by omega), Hd.out.drewN _⟩
          case measure => simp [intOf]; omega
        · have e1 : (y3 == 1) = false := beq_eq_false_iff_ne.2 c1
          clear c0 c1
          go_wp2_with fail
          go_quiet (fail)
          go_wp2
          go_roundw
          case rel => exact ⟨_, j - 1, by omega, by simp only [ByteArray.size_append, ByteArray.size_extract]; omega, rfl, congrArg (Value.int .i64) (by omega), (Hc.out.below (below_drewN (Below.refl _ _) _)).more (by omega), Hd.out.drewN _⟩
          case measure => simp [intOf]; omega
    · by_cases h1 : 0 < j
      · have h1I : (0 : Int) < (j : Int) := by omega
        have h2I : ¬ (0 : Int) < (s.size : Int) := by omega
        go_wp2_with fail
        go_ret
        exact ⟨s, rfl, by omega, Hc.out.more (by omega), Hd.out⟩
      · have h1I : ¬ (0 : Int) < (j : Int) := by omega
        go_wp2_with fail
        go_ret
        exact ⟨s, rfl, by omega, Hc.out.more (by omega), Hd.out⟩
end Go.Proofs.YtheddnjhkcpmnaaGreatDoor
