
/- InsText on both sides: what the Go text returns. Conditions: the words and the table lie where the program lays them. Printed by wip/tools/mk_it.py. -/
import Derived.Test.YtheddnjhkcpmnaaDoorWd
import Derived.Test.YtheddnjhkcpmnaaDoorImI
import Derived.Test.YtheddnjhkcpmnaaDoorLw1
import Derived.Deep.RegionHeld3
set_option linter.unusedSimpArgs false
set_option linter.unusedVariables false
set_option maxRecDepth 100000
namespace Go.Proofs.YtheddnjhkcpmnaaDoor
open Go.RowKit

def insW : List ByteArray := [⟨#[]⟩, ⟨#[110, 117, 109]⟩, ⟨#[118, 97, 114]⟩, ⟨#[115, 101, 116]⟩, ⟨#[114, 101, 99, 107, 111, 110]⟩, ⟨#[105, 110, 112, 117, 116]⟩, ⟨#[114, 101, 99, 111, 118, 101, 114]⟩, ⟨#[99, 97, 108, 108]⟩, ⟨#[112, 114, 105, 110, 116]⟩, ⟨#[100, 114, 111, 112]⟩, ⟨#[106, 117, 109, 112]⟩, ⟨#[117, 110, 108, 101, 115, 115]⟩, ⟨#[112, 117, 116]⟩, ⟨#[112, 97, 110, 105, 99]⟩, ⟨#[101, 120, 105, 116]⟩, ⟨#[114, 101, 115, 117, 108, 116]⟩, ⟨#[108, 101, 97, 118, 101]⟩, ⟨#[111, 102, 102]⟩, ⟨#[101, 110, 100]⟩]
theorem insW_length : insW.length = 19 := rfl
theorem insW_size : ∀ s ∈ insW, s.size ≤ 10 := by
  intro s hs; simp only [insW, List.mem_cons, List.not_mem_nil, or_false] at hs
  rcases hs with rfl | rfl | rfl | rfl | rfl | rfl | rfl | rfl | rfl | rfl | rfl | rfl | rfl | rfl | rfl | rfl | rfl | rfl | rfl <;> decide
/-- the program's words lie in their variable -/
def InsWs (w : World) : Prop := 0 < w.heap.size ∧ ∀ k (h : k < insW.length), w.cell? ⟨0, k, none⟩ = some (.string insW[k])
def insS (o n : Int) : ByteArray := if hasNB o = true then insW.getD o.toNat ⟨#[]⟩ ++ ⟨#[32]⟩ ++ ⟨(intT n).toArray⟩ else insW.getD o.toNat ⟨#[]⟩
theorem insS_yes {k : Nat} {n : Int} (h : hasNB (k : Int) = true) (hk : k < insW.length) : insS k n = insW[k] ++ ⟨#[32]⟩ ++ ⟨(intT n).toArray⟩ := by
  unfold insS; rw [if_pos h, Int.toNat_natCast]; simp [List.getD, List.getElem?_eq_getElem hk]
theorem insS_no {k : Nat} {n : Int} (h : hasNB (k : Int) = false) (hk : k < insW.length) : insS k n = insW[k] := by
  unfold insS; rw [if_neg (by rw [h]; simp), Int.toNat_natCast]; simp [List.getD, List.getElem?_eq_getElem hk]
theorem insOk_small {o n : Int} (h : insOk ⟨o, n⟩ = true) : -2147483648 ≤ n ∧ n ≤ 2147483647 := by
  unfold insOk at h
  dsimp only at h
  split at h
  · unfold smallB at h; exact inB_iff.1 h
  · split at h
    · have := inB_iff.1 h; omega
    · split at h
      · have := inB_iff.1 h; omega
      · have := of_decide_eq_true (Bool.and_eq_true _ _ ▸ h).2; omega
structure HoI (w : World) (o n : Int) (W : World) : Prop where
  b : Below w.heap.size w W
  k : Bk W w.heap.size 35 #[.int .i64 o, .int .i64 n]
theorem HoI.start (w : World) (o n : Int) : HoI w o n (w.alloc (.cells #[.int .i64 o, .int .i64 n] 35)) := ⟨(Below.refl _ _).alloc (Nat.le_refl _) _, Bk.new w _ _⟩
theorem HoI.below {w : World} {o n : Int} {W W1 : World} (h : HoI w o n W) (hb : Below W.heap.size W W1) : HoI w o n W1 := ⟨h.b.trans (hb.mono h.b.size), h.k.below hb⟩
theorem HoI.drew {w : World} {o n : Int} {W : World} (h : HoI w o n W) : HoI w o n W.drew := h.below (Below.refl _ _).drew
theorem P10.below {w W : World} (h : P10 w) (hb : Below w.heap.size w W) (hg : 4 < w.heap.size) : P10 W := var?_below hb (by kernel_rfl) hg h
set_option maxHeartbeats 3200000 in
theorem impl_insText (o n : Int) (w : World) (hok : insOk ⟨o, n⟩ = true) (ht : P10 w) (hg : 4 < w.heap.size) (hw : InsWs w) :
    Calls Tryd.prog 41 #[.agg #[.int .i64 o, .int .i64 n]] w fun e w' => e = .returned (.string (insS o n)) ∧ Below w.heap.size w w' := by
  obtain ⟨hg0, hc⟩ := hw
  have ho := insOk_bd hok
  dsimp only at ho
  have hn := insOk_small hok
  obtain ⟨k, rfl⟩ := Int.eq_ofNat_of_zero_le (show 0 ≤ o by omega)
  have hk : k < insW.length := by rw [insW_length]; omega
  have hI := fun W (hW : Below w.heap.size w W) => strconv_Itoa n hn.1 hn.2 W (ht.below hW hg)
  have hN := fun W => impl_hasN (k : Int) W
  have hcw := hc k hk
  have hsz := insW_size _ (List.getElem_mem hk)
  have hy := fun h => @insS_yes k n h hk
  have hno := fun h => @insS_no k n h hk
  have hTl := intT_len (n := n) (by omega) (by omega)
  rw [← mk_sizeT] at hTl
  generalize (⟨(intT n).toArray⟩ : ByteArray) = T at *
  generalize insW[k] = B at *
  have s1 : ¬ 9223372036854775807 < B.size + 1 := by omega
  have s2 : ¬ 9223372036854775807 < B.size + 1 + T.size := by omega
  have hk1 : (k : Int) < 19 := by omega
  have hk0 : (0 : Int) ≤ (k : Int) := by omega
  have Hs := hide (HoI.start w k n)
  have HI := Lib.hid hI
  clear hI hc ht hok ho hn
  cases hh : hasNB (k : Int)
  · simp only [hh] at hN
    have HS := hide (hno hh); have HN := Lib.hid hN
    clear hN hy hno hh HI
    have hcW := (Hs.out.b.cell (p := ⟨0, k, none⟩) hg0).trans hcw
    go_enter Tryd.func41, Tryd.ntmps41
    go_wp2_with (go_at_call 59; refine (HN.out _).mono ?_; rintro e w1 ⟨rfl, rfl⟩)
    go_ret
    exact ⟨retS HS.out.symm, Hs.out.b⟩
  · simp only [hh] at hN
    have HS := hide (hy hh); have HN := Lib.hid hN
    have SM : ∀ w', HoI w k n w' → w'.cell? ⟨w.heap.size, 0, none⟩ = some (.int .i64 k) ∧ w'.cell? ⟨w.heap.size, 1, none⟩ = some (.int .i64 n) ∧ w'.cell? ⟨0, k, none⟩ = some (.string B) ∧ HoI w k n w' := fun W h => ⟨h.k.cell 0, h.k.cell 1, (h.b.cell (p := ⟨0, k, none⟩) hg0).trans hcw, h⟩
    have HSM := Lib.hid SM
    clear hN hy hno hh SM
    go_enter Tryd.func41, Tryd.ntmps41
    go_wp2_with (go_at_call 59; refine (HN.out _).mono ?_; rintro e w1 ⟨rfl, rfl⟩)
    go_region_held3 (fun w' => w'.cell? ⟨w.heap.size, 0, none⟩ = some (.int .i64 k) ∧ w'.cell? ⟨w.heap.size, 1, none⟩ = some (.int .i64 n) ∧ w'.cell? ⟨0, k, none⟩ = some (.string B) ∧ HoI w k n w')
      (first
        | with_reducible exact HSM.out _ Hs.out.drew
        | with_reducible exact HSM.out _ Ho1.out)
      ((go_at_call 54; refine (HI.out _ Hs.out.drew.b).mono ?_; rintro e w1 ⟨rfl, hb1⟩; have Ho1 := hide (Hs.out.drew.below hb1); clear hb1))
    all_goals
      go_wp2
      go_ret
      exact ⟨retS HS.out.symm, Ho1.out.b⟩
end Go.Proofs.YtheddnjhkcpmnaaDoor
