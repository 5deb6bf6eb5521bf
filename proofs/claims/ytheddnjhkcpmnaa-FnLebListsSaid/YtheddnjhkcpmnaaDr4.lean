
/- Lists drawn for LEB128, and their plain law. No condition. -/
import Derived.Test.YtheddnjhkcpmnaaDr3
import Derived.Test.YtheddnjhkcpmnaaLu
import Derived.Test.YtheddnjhkcpmnaaFlP
set_option linter.unusedSimpArgs false
set_option linter.unusedVariables false
set_option maxRecDepth 100000
namespace Go.Proofs.Ytheddnjhkcpmnaa
open Go.RowKit

theorem rdLoop_list : ∀ (rest : List Int), (∀ z ∈ rest, 0 ≤ z ∧ z ≤ 18446744073709551615) → ∀ (pre : List UInt8) (acc : List Int), (pre ++ lebList rest).length ≤ 2000 →
    rdLoop ⟨(pre ++ lebList rest).toArray⟩ rest.length (pre.length : Nat) acc = some (acc ++ rest, ((pre ++ lebList rest).length : Int)) := by
  intro rest
  induction rest with
  | nil => intro _ pre acc _; simp [rdLoop, lebList]
  | cons z t ih =>
    intro hz pre acc hl
    obtain ⟨h1, h2⟩ := hz z (by simp)
    have e : lebList (z :: t) = leb z.toNat ++ lebList t := rfl
    rw [e] at hl ⊢
    have hm := rdU_mid pre (lebList t) (n := z.toNat) (by omega) hl
    have hy := @rdLoop_yes (⟨(pre ++ (leb z.toNat ++ lebList t)).toArray⟩ : ByteArray) t.length (pre.length : Nat) acc (by rw [hm])
    rw [hm] at hy
    have := ih (fun x hx => hz x (by simp [hx])) (pre ++ leb z.toNat) (acc ++ [z]) (by rw [List.append_assoc]; exact hl)
    rw [List.append_assoc, List.append_assoc] at this
    show rdLoop _ (t.length + 1) _ _ = _
    rw [hy]
    rw [List.length_append] at this
    rw [show ((z.toNat : Nat) : Int) = z by omega]
    exact this
theorem rdL_back (zs : List Int) (hz : ∀ z ∈ zs, 0 ≤ z ∧ z ≤ 18446744073709551615) (h : luB zs = true) : rdL (luS zs) 0 = (zs, ((luS zs).size : Int), true) := by
  obtain ⟨h1, h2⟩ := of_decide_eq_true h
  have e : luS zs = ⟨(listB zs).toArray⟩ := by unfold luS; rw [if_pos ⟨h1, h2⟩]
  have hm := rdU_mid [] (lebList zs) (n := zs.length) (by omega) h2
  have hm' : rdU ⟨(listB zs).toArray⟩ 0 = (zs.length, 0 + (leb zs.length).length, 0, true) := hm
  have hl := rdLoop_list zs hz (leb zs.length) [] h2
  rw [e]
  have hs := @rdL_some (⟨(listB zs).toArray⟩ : ByteArray) 0 (zs, ((listB zs).length : Int)) (by rw [hm']) (by rw [hm']; exact h1) (by rw [hm']; rw [Nat.zero_add]; exact hl)
  rw [hs, mk_size]
theorem rdLoop_lenB (s : ByteArray) : ∀ (k : Nat) (e : Int) (acc : List Int) (x : List Int × Int), rdLoop s k e acc = some x → x.1.length = acc.length + k := by
  intro k
  induction k with
  | zero => intro e acc x h; simp [rdLoop] at h; subst h; simp
  | succ k ih =>
    intro e acc x h
    by_cases g : (rdU s e).2.2.2 = true
    · rw [rdLoop_yes g] at h
      have := ih _ _ _ h
      rw [List.length_append] at this
      simp at this; omega
    · rw [rdLoop_no (by simpa using g)] at h; cases h
theorem rdL_lenB (s : ByteArray) (a : Int) : (rdL s a).1.length ≤ 200 := by
  by_cases g : (rdU s a).2.2.2 = true ∧ (rdU s a).1 ≤ 200
  · cases h : rdLoop s (rdU s a).1 (rdU s a).2.1 [] with
    | none => rw [rdL_none g.1 g.2 h]; simp
    | some x => rw [rdL_some g.1 g.2 h]; have := rdLoop_lenB s _ _ _ _ h; simp at this; dsimp only; omega
  · rw [rdL_no g]; simp
theorem Cur.keepG {g : Nat} {A : Option Addr} {c : Nat} {zs : List Int} {K : Nat} {w w1 : World} (h : Cur g A c zs K w) (hb : Below (g + 1) w w1) : Cur g A c zs K w1 := by
  obtain ⟨⟨a, s, h1, h2, h3⟩, h4, h5⟩ := h
  exact ⟨⟨a, s, h1, h2, (hb.block g (Nat.lt_succ_self g)).trans h3⟩, h4.below (hb.mono (Nat.le_succ g)), h5⟩
def ListP (w : World) (e : Ending) (w' : World) : Prop := ∃ (v : Value) (zs : List Int), e = .returned v ∧ w'.ownsRow w.heap.size 24 1 v zs.length (icells .u64 zs) ∧ (∀ z ∈ zs, 0 ≤ z ∧ z ≤ 18446744073709551615) ∧ zs.length ≤ 1000 ∧ Below w.heap.size w w'
set_option maxHeartbeats 3200000 in
theorem spec_DrawListU (v : Value) (zs : List Int) (w : World) (hr : Rd w w.heap.size v zs.length (icells .u8 zs)) (hz : ∀ z ∈ zs, 0 ≤ z ∧ z ≤ 255) :
    Calls Try.prog 22 #[v] w (ListP w) := by
  obtain ⟨A, c, rfl, hc⟩ := cur_start hr hz
  have Hc := hide hc
  have Hb := hide ((Below.refl w.heap.size w).alloc (Nat.le_refl _) (.cells #[.slice A zs.length c, .int .i64 0, .int .u64 0] 80))
  clear hr hc
  go_enter Try.func22, Try.ntmps22
  go_wp2_with (first
    | (go_at_call 65; refine (cur_one _ _ _ _ _ _ _ Hc.out (by decide) (by decide)).mono ?_; rintro e w1 ⟨b, rfl, hc1, hd1⟩; have Hb := hide (Hb.out.trans (hd1.below (Nat.le_refl _) Hb.out.size)); have Hc := hide hc1; clear hc1 hd1)
    | (go_at_call_of 70 (Value.int .i64 2); refine (cur_pick _ _ _ _ _ _ _ Hc.out (by decide) (by decide)).mono ?_; rintro e w2 ⟨x, rfl, ⟨hx1, hx2⟩, hc1, hd1⟩; have hx3 := hx2 (by decide); obtain ⟨k, rfl⟩ := Int.eq_ofNat_of_zero_le hx1; have Hb := hide (Hb.out.trans (hd1.below (Nat.le_refl _) Hb.out.size)); have Hc := hide hc1; clear hc1 hd1 hx2)
    | (at_make; go_must (refine wpList_makeN rfl _ _ _ rfl okU64 (200 + k) (congrArg (Value.int .i64) (by omega)) (congrArg (Value.int .i64) (by omega)) (by omega) (by unfold maxLen; omega) ?_); intro w3 hown3 hb3)
    | (go_at_call_of 70 (Value.int .i64 6); refine (cur_pick _ _ _ _ _ _ _ Hc.out (by decide) (by decide)).mono ?_; rintro e w2 ⟨y, rfl, ⟨hy1, hy2⟩, hc1, hd1⟩; have hy3 := hy2 (by decide); have Hb := hide (Hb.out.trans (hd1.below (Nat.le_refl _) Hb.out.size)); have Hc := hide hc1; clear hc1 hd1 hy2))
  · go_ret
    rw [made_int] at hown3
    exact ⟨_, List.replicate (200 + k) 0, rfl, by rw [List.length_replicate]; exact own_base hown3 Hb.out.size, fun z hz => by rw [List.eq_of_mem_replicate hz]; omega, by rw [List.length_replicate]; omega, Hb.out.trans (hb3.mono Hb.out.size)⟩
  · have Hg := hide Hc.out.lt
    go_loopw [4, 5] (fun l n wr => ∃ (xs : List Int) (j : Nat), xs.length + j ≤ 6 ∧ n = .int .i64 j ∧ wr.ownsRow (w.heap.size + 1) 24 1 l xs.length (icells .u64 xs) ∧ (∀ z ∈ xs, 0 ≤ z ∧ z ≤ 18446744073709551615) ∧ Cur w.heap.size A c zs (1000 - 20 * j) wr ∧ Below w.heap.size w wr ∧ w.heap.size < wr.heap.size) (fun _ n _ => (intOf n).toNat)
    case atStart => exact ⟨[], y.toNat, by simp; omega, congrArg (Value.int .i64) (by omega), World.ownsRow_nil _ _ _ _, (fun z hz => by cases hz), Hc.out.more (by omega), Hb.out, Hg.out⟩
    case round =>
      obtain ⟨xs, j, hj, rfl, hown, hxs, hc, hb, hg⟩ := hrel
      have Hown := hide hown; have Hxs := Lib.hid hxs; have Hc := hide hc; have Hb := hide hb
      clear hown hxs hc hb
      by_cases h0 : 0 < j
      · have h0I : (0 : Int) < (j : Int) := by omega
        go_wp2_with (first
          | (go_at_call 61; refine (cur_u64 _ _ _ _ _ _ Hc.out (by omega)).mono ?_; rintro e w4 ⟨m, rfl, hm, hc1, hd1⟩; have Hb := hide (Hb.out.trans (hd1.below (Nat.le_refl _) Hb.out.size)); have Hown := hide (hd1.own Hown.out (Nat.lt_succ_self _)); have Hc := hide hc1; have hg4 := Nat.lt_of_lt_of_le hg hd1.size; clear hc1 hd1)
          | (at_builtin; refine wpList_push rfl _ _ _ rfl okU64 rfl Hown.out _ rfl rfl (by simp [Value.oneCell']) (by unfold maxLen; omega) (by omega) hg4 ?_; intro v1 w5 hown5 hg5))
        go_roundw
        case rel =>
          refine ⟨xs ++ [m], j - 1, by rw [List.length_append]; simp; omega, congrArg (Value.int .i64) (by omega), ?_, ?_, (Hc.out.keepG (belowPush (Below.refl _ _) Hown.out hg4 hg5)).more (by omega), belowPush Hb.out (own_base Hown.out (Nat.le_succ _)) Hb.out.size hg5, Nat.lt_of_lt_of_le hg4 (belowPush (Below.refl _ _) Hown.out hg4 hg5).size⟩
          · rw [List.length_append, icells_append]; exact hown5
          · intro z hz
            rcases List.mem_append.1 hz with h | h
            · exact Hxs.out z h
            · rw [List.mem_singleton.1 h]; exact hm
        case measure => simp [intOf]; omega
      · have h0I : ¬ (0 : Int) < (j : Int) := by omega
        go_wp2_with fail
        go_ret
        exact ⟨_, xs, rfl, own_base Hown.out (Nat.le_succ _), Hxs.out, by omega, Hb.out⟩
theorem luS_size (zs : List Int) : (luS zs).size ≤ 2000 := by
  unfold luS
  split
  · rename_i h; rw [mk_size]; exact h.2
  · exact Nat.zero_le _
set_option maxHeartbeats 3200000 in
theorem spec_DrawReadListU (v : Value) (zs : List Int) (w : World) (hr : Rd w w.heap.size v zs.length (icells .u8 zs)) (hz : ∀ z ∈ zs, 0 ≤ z ∧ z ≤ 255) :
    Calls Try.prog 27 #[v] w fun e w' => ∃ (s : ByteArray) (n : Int), e = .returned (.tuple #[.string s, .int .i64 n]) ∧ s.size ≤ 3000 ∧ (0 ≤ n ∧ n ≤ 2) ∧ Below w.heap.size w w' := by
  have hd := fun W (hW : Below w.heap.size w W) => spec_DrawListU v zs W (hr.here hW) hz
  obtain ⟨A, c, rfl, hc⟩ := cur_start hr hz
  have Hc := hide hc
  have Hb := hide ((Below.refl w.heap.size w).alloc (Nat.le_refl _) (.cells #[.slice A zs.length c, .int .i64 0, .int .u64 0] 80))
  have HD := Lib.hid hd
  clear hr hc hd
  go_enter Try.func27, Try.ntmps27
  go_wp2_with (first
    | (go_at_call 22; refine (HD.out _ Hb.out).mono ?_; rintro e w1 ⟨u, xs, rfl, hown, hxs, hxl, hb⟩; have Hown := hide hown; have Hxs := Lib.hid hxs; have Hb := hide (Hb.out.trans (hb.mono Hb.out.size)); have Hc := hide (Hc.out.below hb); clear hown hxs hb)
    | (go_at_call 24; refine (spec_ListU _ xs _ (Rd.of_own Hown.out) Hxs.out (by omega)).mono ?_; rintro e w2 ⟨rfl, hb⟩; have hsz := luS_size xs; have Hb := hide (Hb.out.trans (hb.mono Hb.out.size)); have Hc := hide (Hc.out.below hb); generalize luS xs = S at *; generalize luB xs = B at *; clear hb)
    | (go_at_call 65; refine (cur_one _ _ _ _ _ _ _ Hc.out (by decide) (by decide)).mono ?_; rintro e w3 ⟨b, rfl, hc1, hd1⟩; have Hb := hide (Hb.out.trans (hd1.below (Nat.le_refl _) Hb.out.size)); have Hc := hide hc1; clear hc1 hd1)
    | (go_at_call 76; refine (cur_spoilt _ _ _ _ _ _ S ⟨#[0, 1, 128]⟩ Hc.out (by decide) (by omega) (by decide) (by decide)).mono ?_; rintro e w4 ⟨S2, rfl, hs2, hc1, hd1⟩; have Hb := hide (Hb.out.trans (hd1.below (Nat.le_refl _) Hb.out.size)); have Hc := hide hc1; clear hc1 hd1)
    | (go_at_call 70; refine (cur_pick _ _ _ _ _ _ _ Hc.out (by decide) (by decide)).mono ?_; rintro e w5 ⟨y, rfl, ⟨hy1, hy2⟩, hc1, hd1⟩; have hy3 := hy2 (by decide); have Hb := hide (Hb.out.trans (hd1.below (Nat.le_refl _) Hb.out.size)); have Hc := hide hc1; clear hc1 hd1 hy2))
  all_goals
    go_ret2
    exact ⟨_, _, rfl, by omega, by omega, Hb.out⟩
end Go.Proofs.Ytheddnjhkcpmnaa
