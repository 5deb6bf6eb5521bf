
/- impl.ExprText: what the Go text returns. Conditions: the words and the table lie where the program lays them. -/
import Derived.Test.YtheddnjhkcpmnaaGreatDoorLw1
import Derived.Test.YtheddnjhkcpmnaaGreatDoorWd
import Derived.Test.YtheddnjhkcpmnaaGreatDoorBld2
import Derived.Test.YtheddnjhkcpmnaaGreatDoorCfTok
set_option linter.unusedSimpArgs false
set_option linter.unusedVariables false
set_option maxRecDepth 100000
namespace Go.Proofs.YtheddnjhkcpmnaaGreatDoor
open Go.RowKit Go.Shelf

def exW : List ByteArray := [⟨#[]⟩, ⟨#[]⟩, ⟨#[118]⟩, ⟨#[43]⟩, ⟨#[45]⟩, ⟨#[42]⟩, ⟨#[47]⟩, ⟨#[60]⟩, ⟨#[61]⟩, ⟨#[105, 110]⟩, ⟨#[114, 101, 99]⟩, ⟨#[102]⟩]
theorem exW_length : exW.length = 12 := rfl
/-- the program's words lie in their variable -/
def ExWs (w : World) : Prop := 0 < w.heap.size ∧ ∀ k (h : k < exW.length), w.cell? ⟨0, k, none⟩ = some (.string exW[k])
theorem ExWs.below {w W : World} (h : ExWs w) (hb : Below w.heap.size w W) : ExWs W := ⟨Nat.lt_of_lt_of_le h.1 hb.size, fun k hk => (hb.cell (p := ⟨0, k, none⟩) h.1).trans (h.2 k hk)⟩
theorem IsBld.lt {B b : Nat} {l : List UInt8} {w : World} (h : IsBld B b l w) : b < w.heap.size := by
  rcases h with ⟨_, _, hbk, _⟩ | ⟨_, _, hbk, _⟩ <;> exact (Array.getElem?_eq_some_iff.1 hbk).1
theorem P10.belowE {w W : World} (h : P10 w) (hb : Below w.heap.size w W) (hg : 3 < w.heap.size) : P10 W := var?_below hb (by kernel_rfl) hg h
/-- a token's text: its word and, where it has one, its number -/
theorem tokT_word {o n : Int} (h : tokOk 100 100 ⟨o, n⟩ = true) : ∃ k : Nat, o = k ∧ (1 ≤ k ∧ k < 12) ∧ ∀ hk : k < exW.length, (exW[k].size ≤ 3) ∧ tokT ⟨o, n⟩ = exW[k].data.toList ++ (if k = 1 ∨ k = 2 ∨ k = 11 then intT n else []) := by
  have hn : ∀ m : Int, 0 ≤ m → intT m = num10 m.toNat := fun m hm => if_neg (by omega)
  by_cases o1 : o = 1
  · subst o1; exact ⟨1, rfl, by omega, fun _ => ⟨by decide +revert, rfl⟩⟩
  by_cases o2 : o = 2
  · subst o2
    have hb := inB_iff.1 (show inB n 0 99 = true from h)
    exact ⟨2, rfl, by omega, fun _ => ⟨by decide +revert, by rw [if_pos (by omega), hn _ (by omega)]; rfl⟩⟩
  by_cases o3 : o = 11
  · subst o3
    have hb := inB_iff.1 (show inB n 0 99 = true from h)
    exact ⟨11, rfl, by omega, fun _ => ⟨by decide +revert, by rw [if_pos (by omega), hn _ (by omega)]; rfl⟩⟩
  rw [tokOk_other o1 o2 o3] at h
  have hr := inB_iff.1 (Bool.and_eq_true _ _ ▸ h).1
  obtain rfl | rfl | rfl | rfl | rfl | rfl | rfl | rfl : o = 3 ∨ o = 4 ∨ o = 5 ∨ o = 6 ∨ o = 7 ∨ o = 8 ∨ o = 9 ∨ o = 10 := by omega
  · exact ⟨3, rfl, by omega, fun _ => ⟨by decide +revert, rfl⟩⟩
  · exact ⟨4, rfl, by omega, fun _ => ⟨by decide +revert, rfl⟩⟩
  · exact ⟨5, rfl, by omega, fun _ => ⟨by decide +revert, rfl⟩⟩
  · exact ⟨6, rfl, by omega, fun _ => ⟨by decide +revert, rfl⟩⟩
  · exact ⟨7, rfl, by omega, fun _ => ⟨by decide +revert, rfl⟩⟩
  · exact ⟨8, rfl, by omega, fun _ => ⟨by decide +revert, rfl⟩⟩
  · exact ⟨9, rfl, by omega, fun _ => ⟨by decide +revert, rfl⟩⟩
  · exact ⟨10, rfl, by omega, fun _ => ⟨by decide +revert, rfl⟩⟩
theorem tokOk_small {o n : Int} (h : tokOk 100 100 ⟨o, n⟩ = true) : -2147483648 ≤ n ∧ n ≤ 2147483647 := by
  by_cases o1 : o = 1
  · subst o1; exact inB_iff.1 h
  by_cases o2 : o = 2
  · subst o2
    have hb := inB_iff.1 (show inB n 0 99 = true from h)
    omega
  by_cases o3 : o = 11
  · subst o3
    have hb := inB_iff.1 (show inB n 0 99 = true from h)
    omega
  rw [tokOk_other o1 o2 o3] at h
  have := of_decide_eq_true (Bool.and_eq_true _ _ ▸ h).2
  omega
theorem tokT_ne {o n : Int} (h : tokOk 100 100 ⟨o, n⟩ = true) : tokT ⟨o, n⟩ ≠ [] := by
  have hnum : ∀ m : Nat, num10 m ≠ [] := fun m => by
    by_cases h : m < 10
    · rw [num10_small h]; simp
    · rw [num10_more h]; simp
  by_cases o1 : o = 1
  · subst o1
    show intT n ≠ []
    unfold intT; split
    · simp
    · exact hnum _
  by_cases o2 : o = 2
  · subst o2; show (118 : UInt8) :: _ ≠ []; simp
  by_cases o3 : o = 11
  · subst o3; show (102 : UInt8) :: _ ≠ []; simp
  rw [tokOk_other o1 o2 o3] at h
  have hr := inB_iff.1 (Bool.and_eq_true _ _ ▸ h).1
  obtain rfl | rfl | rfl | rfl | rfl | rfl | rfl | rfl : o = 3 ∨ o = 4 ∨ o = 5 ∨ o = 6 ∨ o = 7 ∨ o = 8 ∨ o = 9 ∨ o = 10 := by omega
  all_goals (intro e; cases e)
theorem exprF_ne {l : List P2} (hok : ∀ t ∈ l, tokOk 100 100 t = true) (h : 1 ≤ l.length) : exprF 0 l ≠ [] := by
  cases l with
  | nil => simp at h
  | cons t l =>
    have := tokT_ne (hok t (by simp))
    simp only [exprF, if_pos]
    exact fun e => this (List.append_eq_nil_iff.1 e).1
set_option maxHeartbeats 3200000 in
theorem impl_exprText (v : Value) (l : List P2) (w : World) (hr : Rd w w.heap.size v l.length (pcells l)) (hok : ∀ t ∈ l, tokOk 100 100 t = true) (hl1 : 1 ≤ l.length) (hl : l.length ≤ 12) (hp : P10 w) (hg : 3 < w.heap.size) (hw : ExWs w) :
    Calls Tryz.prog 26 #[v] w fun e w' => e = .returned (.string ⟨(exprF 0 l).toArray⟩) ∧ Below w.heap.size w w' := by
  obtain ⟨A, c, rfl, hn, hc, hcell⟩ := id hr
  have hlen := exprF_len hok 0
  have hne := exprF_ne hok hl1
  have Hr := hide hr; have Hok := Lib.hid hok; have Hne := Lib.hid hne; have HP := hide hp; have HW := hide hw
  clear hr hcell hok hne hp hw
  have HF := hide (IsBld.fresh w)
  have HB := hide ((Below.refl w.heap.size w).alloc (Nat.le_refl _) (.cells #[.pointer none, .slice none 0 0] 71))
  go_enter Tryz.func26, Tryz.ntmps26
  go_wp2
  go_loopw [8] (fun i wr => ∃ (k : Nat) (acc : List UInt8), k ≤ l.length ∧ i = .int .i64 k ∧ acc ++ exprF k (l.drop k) = exprF 0 l ∧ IsBld w.heap.size w.heap.size acc wr ∧ Below w.heap.size w wr) (fun i _ => l.length - (intOf i).toNat)
  case atStart => exact ⟨0, [], by omega, rfl, rfl, HF.out, HB.out⟩
  case round =>
    obtain ⟨k, acc, hk, rfl, hacc, hbd, hb⟩ := hrel
    have hal : acc.length ≤ 144 := by have := congrArg List.length hacc; rw [List.length_append] at this; omega
    by_cases hlt : k < l.length
    · rw [exprF_step hlt] at hacc
      obtain ⟨b, o, rfl, hbB, s0, s1⟩ := Hr.out.two hlt
      have q0 := (hb.cell (p := ⟨b, o + k * 2, none⟩) hbB).trans s0
      have q1 := (hb.cell (p := ⟨b, o + k * 2 + 1, none⟩) hbB).trans s1
      have hbw : b < wr.heap.size := Nat.lt_of_lt_of_le hbB hb.size
      have ht := Hok.out _ (List.getElem_mem hlt)
      generalize l[k] = t at *
      obtain ⟨to, tn⟩ := t
      dsimp only at *
      obtain ⟨q, rfl, ⟨hq1, hq2⟩, hq⟩ := tokT_word ht
      have hq3 : q < exW.length := by rw [exW_length]; exact hq2
      obtain ⟨hql, hqt⟩ := hq hq3
      have hsm := tokOk_small ht
      have hTl := intT_len (n := tn) (by omega) (by omega)
      have hI := fun W (hW : Below w.heap.size w W) => strconv_Itoa tn hsm.1 hsm.2 W (HP.out.belowE hW hg)
      have hcw := fun W (hW : Below w.heap.size w W) => (HW.out.below hW).2 q hq3
      have hg1 := HW.out.1
      generalize exW[q] = E at *
      rw [hqt] at hacc
      have hWS : ∀ (acc : List UInt8) (s : ByteArray) W, acc.length ≤ 300 → s.size ≤ 300 → IsBld w.heap.size w.heap.size acc W → Below w.heap.size w W → Calls Tryz.prog 48 #[.pointer (some ⟨w.heap.size, 0, none⟩), .string s] W fun e w' => e = .returned (.tuple #[.int .i64 s.size, .nilIface]) ∧ IsBld w.heap.size w.heap.size (acc ++ s.data.toList) w' ∧ Below w.heap.size W w' := fun acc s W h1 h2 h3 h4 =>
        bld_WriteString w.heap.size w.heap.size acc s W h3 (by omega) h4.size
      have hTs : (⟨(intT tn).toArray⟩ : ByteArray).size ≤ 11 := by rw [mk_sizeT]; exact hTl
      have hkb : wr.heap.size ≠ w.heap.size := by have := hbd.lt; omega
      have c1 := hcw wr hb
      have gl := Nat.lt_of_lt_of_le hg1 hb.size
      have Hb := hide (hb.alloc hb.size (.cells #[.int .i64 q, .int .i64 tn] 40))
      have Hbd := hide (hbd.below ((Below.refl _ _).alloc (Nat.le_refl _) (.cells #[.int .i64 q, .int .i64 tn] 40)))
      have Hk := hide (Bk.new wr 40 #[.int .i64 q, .int .i64 tn])
      have HI := Lib.hid hI; have HWS := Lib.hid hWS; have HC := Lib.hid hcw
      have hq0 : (0 : Int) ≤ (q : Int) := by omega
      have hq12 : (q : Int) < 12 := by omega
      clear s0 s1 hb hbd ht hq hqt hI hWS hcw hsm Hok Hr HF HB
      have Hacc0 := hide hacc; clear hacc
      by_cases hn : q = 1 ∨ q = 2 ∨ q = 11
      · have e0 := Hacc0.out; rw [if_pos hn] at e0; clear Hacc0
        by_cases h0 : k = 0
        · subst h0
          rw [if_pos rfl] at e0
          rw [Nat.zero_mul, Nat.add_zero] at q0 q1
          have Hacc := hide (show (acc ++ E.data.toList ++ intT tn) ++ exprF (0 + 1) (l.drop (0 + 1)) = exprF 0 l by rw [← e0]; simp only [List.append_assoc, List.cons_append, List.nil_append])
          clear e0
          skip
          obtain rfl | rfl | rfl := hn
          all_goals
            go_wp2_with (first
                | (go_at_call_of 48 (Value.string E); refine (bld_WriteStringK _ _ (acc) _ _ Hbd.out (by omega) Hb.out.size Hk.out hkb (by decide)).mono ?_; rintro e w2 ⟨rfl, hbd, hb1, hk1⟩; have Hbd := hide hbd; have Hb := hide (Hb.out.trans hb1); have Hk := hide hk1; have k0 := hk1.cell 0; have k1 := hk1.cell 1; have kl := hk1.lt; clear hbd hb1 hk1)
                | (go_at_call 49; refine (HI.out _ Hb.out).mono ?_; rintro e w3 ⟨rfl, hb1⟩; have Hbd := hide (Hbd.out.below hb1); have Hk := hide (Hk.out.below hb1); have Hb := hide (Hb.out.trans (hb1.mono Hb.out.size)); clear hb1)
                | (go_at_call_of 48 (Value.string ⟨(intT tn).toArray⟩); refine (bld_WriteStringK _ _ (acc ++ E.data.toList) _ _ Hbd.out (by simp only [List.length_append, List.length_singleton, Array.length_toList]; rw [mk_sizeT]; have : E.data.size = E.size := rfl; omega) Hb.out.size Hk.out hkb (by decide)).mono ?_; rintro e w2 ⟨rfl, hbd, hb1, hk1⟩; have Hbd := hide hbd; have Hb := hide (Hb.out.trans hb1); have Hk := hide hk1; have k0 := hk1.cell 0; have k1 := hk1.cell 1; have kl := hk1.lt; clear hbd hb1 hk1))
            go_roundw
            case rel => exact ⟨1, _, by omega, by go_num, Hacc.out, Hbd.out, Hb.out⟩
            case measure => simp [intOf]; omega
        · rw [if_neg h0] at e0
          have hkp : 0 < k := by omega
          have Hacc := hide (show (acc ++ [32] ++ E.data.toList ++ intT tn) ++ exprF (k + 1) (l.drop (k + 1)) = exprF 0 l by rw [← e0]; simp only [List.append_assoc, List.cons_append, List.nil_append])
          clear e0 h0
          skip
          obtain rfl | rfl | rfl := hn
          all_goals
            go_wp2_with (first
                | (go_at_call 47; refine (bld_WriteByteK _ _ acc 32 _ rfl _ Hbd.out (by omega) Hb.out.size Hk.out hkb (by decide)).mono ?_; rintro e w1 ⟨rfl, hbd, hb1, hk1⟩; have Hbd := hide hbd; have Hb := hide (Hb.out.trans hb1); have Hk := hide hk1; have k0 := hk1.cell 0; have k1 := hk1.cell 1; have kl := hk1.lt; have c1 := HC.out _ Hb.out; have gl := Nat.lt_of_lt_of_le hg1 Hb.out.size; clear hbd hb1 hk1)
                | (go_at_call_of 48 (Value.string E); refine (bld_WriteStringK _ _ (acc ++ [32]) _ _ Hbd.out (by simp only [List.length_append, List.length_singleton]; omega) Hb.out.size Hk.out hkb (by decide)).mono ?_; rintro e w2 ⟨rfl, hbd, hb1, hk1⟩; have Hbd := hide hbd; have Hb := hide (Hb.out.trans hb1); have Hk := hide hk1; have k0 := hk1.cell 0; have k1 := hk1.cell 1; have kl := hk1.lt; clear hbd hb1 hk1)
                | (go_at_call 49; refine (HI.out _ Hb.out).mono ?_; rintro e w3 ⟨rfl, hb1⟩; have Hbd := hide (Hbd.out.below hb1); have Hk := hide (Hk.out.below hb1); have Hb := hide (Hb.out.trans (hb1.mono Hb.out.size)); clear hb1)
                | (go_at_call_of 48 (Value.string ⟨(intT tn).toArray⟩); refine (bld_WriteStringK _ _ (acc ++ [32] ++ E.data.toList) _ _ Hbd.out (by simp only [List.length_append, List.length_singleton, Array.length_toList]; rw [mk_sizeT]; have : E.data.size = E.size := rfl; omega) Hb.out.size Hk.out hkb (by decide)).mono ?_; rintro e w2 ⟨rfl, hbd, hb1, hk1⟩; have Hbd := hide hbd; have Hb := hide (Hb.out.trans hb1); have Hk := hide hk1; have k0 := hk1.cell 0; have k1 := hk1.cell 1; have kl := hk1.lt; clear hbd hb1 hk1))
            go_roundw
            case rel => exact ⟨k + 1, _, by omega, by go_num, Hacc.out, Hbd.out, Hb.out⟩
            case measure => simp [intOf]; omega
      · have e0 := Hacc0.out; rw [if_neg hn, List.append_nil] at e0; clear Hacc0
        have n1 : ¬ (q : Int) = 1 := by omega
        have n2 : ¬ (q : Int) = 2 := by omega
        have n3 : ¬ (q : Int) = 11 := by omega
        have b1 : ((q : Int) == 1) = false := beq_eq_false_iff_ne.2 n1
        have b2 : ((q : Int) == 2) = false := beq_eq_false_iff_ne.2 n2
        have b3 : ((q : Int) == 11) = false := beq_eq_false_iff_ne.2 n3
        clear n1 n2 n3 hn
        by_cases h0 : k = 0
        · subst h0
          rw [if_pos rfl] at e0
          rw [Nat.zero_mul, Nat.add_zero] at q0 q1
          have Hacc := hide (show (acc ++ E.data.toList) ++ exprF (0 + 1) (l.drop (0 + 1)) = exprF 0 l by rw [← e0]; simp only [List.append_assoc, List.cons_append, List.nil_append])
          clear e0
          go_wp2_with (first
              | (go_at_call_of 48 (Value.string E); refine (bld_WriteStringK _ _ (acc) _ _ Hbd.out (by omega) Hb.out.size Hk.out hkb (by decide)).mono ?_; rintro e w2 ⟨rfl, hbd, hb1, hk1⟩; have Hbd := hide hbd; have Hb := hide (Hb.out.trans hb1); have Hk := hide hk1; have k0 := hk1.cell 0; have k1 := hk1.cell 1; have kl := hk1.lt; clear hbd hb1 hk1))
          go_roundw
          case rel => exact ⟨1, _, by omega, by go_num, Hacc.out, Hbd.out, Hb.out⟩
          case measure => simp [intOf]; omega
        · rw [if_neg h0] at e0
          have hkp : 0 < k := by omega
          have Hacc := hide (show (acc ++ [32] ++ E.data.toList) ++ exprF (k + 1) (l.drop (k + 1)) = exprF 0 l by rw [← e0]; simp only [List.append_assoc, List.cons_append, List.nil_append])
          clear e0 h0
          go_wp2_with (first
              | (go_at_call 47; refine (bld_WriteByteK _ _ acc 32 _ rfl _ Hbd.out (by omega) Hb.out.size Hk.out hkb (by decide)).mono ?_; rintro e w1 ⟨rfl, hbd, hb1, hk1⟩; have Hbd := hide hbd; have Hb := hide (Hb.out.trans hb1); have Hk := hide hk1; have k0 := hk1.cell 0; have k1 := hk1.cell 1; have kl := hk1.lt; have c1 := HC.out _ Hb.out; have gl := Nat.lt_of_lt_of_le hg1 Hb.out.size; clear hbd hb1 hk1)
              | (go_at_call_of 48 (Value.string E); refine (bld_WriteStringK _ _ (acc ++ [32]) _ _ Hbd.out (by simp only [List.length_append, List.length_singleton]; omega) Hb.out.size Hk.out hkb (by decide)).mono ?_; rintro e w2 ⟨rfl, hbd, hb1, hk1⟩; have Hbd := hide hbd; have Hb := hide (Hb.out.trans hb1); have Hk := hide hk1; have k0 := hk1.cell 0; have k1 := hk1.cell 1; have kl := hk1.lt; clear hbd hb1 hk1))
          go_roundw
          case rel => exact ⟨k + 1, _, by omega, by go_num, Hacc.out, Hbd.out, Hb.out⟩
          case measure => simp [intOf]; omega
    · obtain rfl : k = l.length := by omega
      rw [exprF_end, List.append_nil] at hacc
      subst hacc
      have hst := bld_String w.heap.size w.heap.size _ wr hbd Hne.out
      have HS := hide hst; have Hb := hide hb
      clear hbd hb hst Hne
      go_wp2_with (go_at_call 50; refine (HS.out).mono ?_; rintro e w3 ⟨rfl, hb1⟩; have Hb := hide (Hb.out.trans hb1); clear hb1)
      go_ret
      exact ⟨rfl, Hb.out⟩
/-- ContainsFunc over tokens that are read -/
theorem anyTokE (v : Value) (l : List P2) (p : P2 → Bool) (g : Nat) (eg : ∀ args w, (callFunc g args).run Tryz.prog w = .ok (.enter g args) w) (w : World) (hr : Rd w w.heap.size v l.length (pcells l)) (hl : l.length ≤ 9223372036854775807)
    (hp : ∀ o n W, Calls Tryz.prog g #[.agg #[.int .i64 o, .int .i64 n]] W fun e w' => e = .returned (.bool (p ⟨o, n⟩)) ∧ Below W.heap.size W w') :
    Calls Tryz.prog 23 #[v, .func (.func g) #[] #[]] w fun e w' => e = .returned (.bool (l.any p)) ∧ Below w.heap.size w w' := by
  obtain ⟨A, c, rfl, hn, hc, hcell⟩ := id hr
  rw [← anyq_list (q := fun j => p (l.getD j ⟨0, 0⟩)) (p := p) (l := l) (fun j hj => by simp [List.getD, List.getElem?_eq_getElem hj])]
  refine cfTok A l.length c (fun j => .int .i64 (l.getD j ⟨0, 0⟩).o) (fun j => .int .i64 (l.getD j ⟨0, 0⟩).n) _ g #[] eg w hl (fun j hj => ?_) (fun j hj W hW => hp _ _ W)
  obtain ⟨b, o, hA, hbB, hs0, hs1⟩ := hr.two hj
  exact ⟨b, o, hA, hbB, by rw [hs0]; simp [List.getD, List.getElem?_eq_getElem hj], by rw [hs1]; simp [List.getD, List.getElem?_eq_getElem hj]⟩
theorem impl_ExprText1 (o n : Int) (w : World) : Calls Tryz.prog 24 #[.agg #[.int .i64 o, .int .i64 n]] w fun e w' => e = .returned (.bool (!tokOk 100 100 ⟨o, n⟩)) ∧ Below w.heap.size w w' := by
  have hc := fun W => impl_isTok o n 100 100 (by decide) (by decide) (by decide) (by decide) W
  have HC := Lib.hid hc; clear hc
  go_enter Tryz.func24, Tryz.ntmps24
  go_wp2_with (go_at_call 25; refine (HC.out _).mono ?_; rintro e w1 ⟨rfl, hb1⟩)
  go_ret
  exact ⟨rfl, by first | exact hb1 | exact ((Below.refl _ _).alloc (Nat.le_refl _) _).trans (hb1.mono (by simp))⟩
theorem any_notE {l : List P2} : (l.any fun t => !tokOk 100 100 t) = !(l.all fun t => tokOk 100 100 t) := by
  rw [List.all_eq_not_any_not]; simp
set_option maxHeartbeats 1600000 in
theorem impl_ExprText (v : Value) (l : List P2) (w : World) (hr : Rd w w.heap.size v l.length (pcells l)) (hl : l.length ≤ 9223372036854775807) (hp : P10 w) (hg : 3 < w.heap.size) (hw : ExWs w) :
    Calls Tryz.prog 6 #[v] w fun e w' => e = .returned (.tuple #[.string (if exprOk l then ⟨(exprF 0 l).toArray⟩ else ⟨#[]⟩), .bool (exprOk l)]) ∧ Below w.heap.size w w' := by
  have h0 : exprOk l = false → (if exprOk l then (⟨(exprF 0 l).toArray⟩ : ByteArray) else ⟨#[]⟩) = ⟨#[]⟩ ∧ exprOk l = false := fun h => ⟨by rw [h]; rfl, h⟩
  have h1 : exprOk l = true → (if exprOk l then (⟨(exprF 0 l).toArray⟩ : ByteArray) else ⟨#[]⟩) = ⟨(exprF 0 l).toArray⟩ ∧ exprOk l = true := fun h => ⟨by rw [h]; rfl, h⟩
  have hx : exprOk l = ((l.all fun t => tokOk 100 100 t) && inB l.length 1 12) := rfl
  generalize (if exprOk l then (⟨(exprF 0 l).toArray⟩ : ByteArray) else ⟨#[]⟩) = T at *
  generalize exprOk l = E at *
  have hin := fun w => impl_within l.length 1 12 w
  have hA := anyTokE v l (fun t => !tokOk 100 100 t) 24 (enters_of Tryz.func24 (by kernel_rfl) rfl) w hr hl (fun o n W => impl_ExprText1 o n W)
  rw [any_notE] at hA
  obtain ⟨A, c, rfl, hn, hc, hcell⟩ := id hr
  cases hi : inB (l.length : Int) 1 12
  · have HS := hide (h0 (by rw [hx, hi]; simp))
    simp only [hi] at hin
    have HI := Lib.hid hin; clear hin hA hr hcell hx h0 h1 hi hp hw
    go_enter Tryz.func6, Tryz.ntmps6
    go_wp2_with (go_at_call 22; refine (HI.out _).mono ?_; rintro e w1 ⟨rfl, rfl⟩)
    go_ret2
    exact ⟨retSBT HS.out, Below.refl _ _⟩
  have hi2 := inB_iff.1 hi
  simp only [hi] at hin
  cases ha : (l.all fun t => tokOk 100 100 t)
  · have HS := hide (h0 (by rw [hx, ha]; simp))
    rw [ha] at hA
    have HI := Lib.hid hin; have HA := hide hA; clear hin hA hr hcell hx h0 h1 hi ha hi2 hp hw
    go_enter Tryz.func6, Tryz.ntmps6
    go_wp2_with (first
      | (go_at_call 22; refine (HI.out _).mono ?_; rintro e w1 ⟨rfl, rfl⟩)
      | (go_at_call 23; refine (HA.out).mono ?_; rintro e w1 ⟨rfl, hb1⟩))
    go_ret2
    exact ⟨retSBT HS.out, hb1⟩
  · have HS := hide (h1 (by rw [hx, ha, hi]; rfl))
    have hc2 := fun W (hW : Below w.heap.size w W) => impl_exprText _ l W (hr.here hW) (fun t ht => List.all_eq_true.1 ha t ht) (by omega) (by omega) (hp.belowE hW hg) (Nat.lt_of_lt_of_le hg hW.size) (hw.below hW)
    rw [ha] at hA
    have HI := Lib.hid hin; have HA := hide hA; have HC := Lib.hid hc2; clear hin hA hr hcell hx h0 h1 hi ha hi2 hc2 hp hw
    go_enter Tryz.func6, Tryz.ntmps6
    go_wp2_with (first
      | (go_at_call 22; refine (HI.out _).mono ?_; rintro e w1 ⟨rfl, rfl⟩)
      | (go_at_call 23; refine (HA.out).mono ?_; rintro e w1 ⟨rfl, hb1⟩; have Hb1 := hide hb1; clear hb1)
      | (go_at_call 26; refine (HC.out _ Hb1.out).mono ?_; rintro e w2 ⟨rfl, hb2⟩))
    go_ret2
    exact ⟨retSBT HS.out, Hb1.out.trans (hb2.mono Hb1.out.size)⟩
end Go.Proofs.YtheddnjhkcpmnaaGreatDoor
