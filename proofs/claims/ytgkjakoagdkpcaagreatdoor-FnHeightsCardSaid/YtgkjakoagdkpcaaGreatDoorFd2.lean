
/- spec.stmts: what the Go text does. Conditions: good params, the first of them 0. -/
import Derived.Test.YtgkjakoagdkpcaaGreatDoorFd1
import Derived.Deep.DeepCutAuto
import Derived.WalkSpells

import Derived.IntWalk
import Derived.StillTailTactics
import Derived.Deep.RegionLaw
import Derived.Deep.CutBlock
set_option linter.unusedSimpArgs false
set_option linter.unusedVariables false
set_option maxRecDepth 100000
namespace Go.Proofs.YtgkjakoagdkpcaaGreatDoor
open Go.RowKit

set_option maxHeartbeats 64000000 in
theorem stmts_step (g : Nat) (A : Option Addr) (c : Nat) (zs : List Int) (P V : Int) (hv0 : 0 ≤ V) (hv6 : V ≤ 6) (params : List Int) (hpar : parOk params = true) (hz0 : params.getD 0 1 = 0) (fb base : Nat) (pA : Option Addr) (pc : Nat) (d : Nat) (hd2 : d ≤ 2)
    (IH : ∀ d', d' + 1 = d → StmtsC g A c zs P V params fb base pA pc d') : StmtsC g A c zs P V params fb base pA pc d := by
  intro dI hdI X loop K w v L hc hK hgf hX hpB hpo hfn hrow hok
  have HdI := hide hdI; have HIH := Lib.hid IH; have Hz0 := hide hz0
  clear hdI IH hz0
  have hT2 := sT2 hd2; have hR2 := sR2 hd2; have hTR := sT_sR d
  have Hs := hide (StS.mk (b := []) hgf hX (World.ownsRow_nil _ _ _ _) hc hfn (hrow.toX (fun b _ h e => e.elim h (fun e => by cases e))) hok (Fw.refl g fb w v) hpo hpB)
  clear hc hpo hfn hrow hok hX
  go_enter Tryz.func121, Tryz.ntmps121
  go_wp2_with (go_at_call 44; refine (cur_pick _ _ _ _ _ _ _ Hs.out.cur (by omega) (by omega)).mono ?_; rintro e w1 ⟨x, rfl, hx, hc1, hd1⟩; obtain ⟨x, rfl, hx3⟩ := pick_nat (n := 3) hx (by decide); have Hs := hide (Hs.out.dw hc1 hd1); clear hc1 hd1 hx)
  go_loopw [11, 12] (fun bv nv wr => ∃ (n : Nat) (b : List Int) (v1 : Value) (L1 : List StmtM), nv = .int .i64 n ∧ n + b.length ≤ 3 ∧ StS X g A c zs fb P V params (.slice pA params.length pc) base w v (K + 2 + b.length * sR d) bv b v1 L1 wr ∧ SegD L.length loop L1 b ∧ ∃ T, L1 = L ++ T) (fun _ nv _ => (intOf nv).toNat)
  case atStart => exact ⟨1 + x, [], v, L, by simp, by simp; omega, Hs.out.more (by simp), ⟨⟨.nil _, L, [], by simp, rfl⟩, fun _ j h1 h2 => by omega⟩, [], by simp⟩
  case round =>
    obtain ⟨n, b, v1, L1, rfl, hnb, hs, hseg, hpre⟩ := hrel
    obtain ⟨xs1, hown1⟩ := hs.row.own
    obtain ⟨vA, vc, rfl⟩ := own_form hown1
    have Hs := hide hs; have Hseg := hide hseg; have Hpre := hide hpre
    have f3 := hs.fn.cell 3; have f1 := hs.fn.cell 1; have fl := hs.fn.lt
    have hl12 := hs.ok.len
    have hbR : b.length * sR d ≤ 3 * sR d := Nat.mul_le_mul_right _ (by omega)
    have hbS : (b.length + 1) * sR d = b.length * sR d + sR d := Nat.succ_mul _ _
    generalize hKb : b.length * sR d = Kb at *
    clear hs hown1 hseg hpre
    by_cases hn : n = 0
    case pos =>
      -- H{ e0
      subst hn
      go_wp2_with fail
      go_ret
      exact ⟨_, b, _, L1, rfl, (Hs.out.more (by omega)).toNest (by omega) Hseg.out Hpre.out⟩
      -- H}
    case neg =>
      have hnI : (0 : Int) < (n : Int) := by omega
      have hbR2 : Kb + sR d ≤ 3 * sR d := by rw [← hbS]; exact Nat.mul_le_mul_right _ (by omega)
      by_cases hl : L1.length < 12
      case neg =>
        -- H{ e1
        have hlI : ¬ (L1.length : Int) < 12 := by omega
        go_wp2_with fail
        go_ret
        exact ⟨_, b, _, L1, rfl, (Hs.out.more (by omega)).toNest (by omega) Hseg.out Hpre.out⟩
        -- H}
      case pos =>
        have hlI : (L1.length : Int) < 12 := by omega
        go_upto_region 7 with (go_at_call 38; go_must (refine (cur_am11 Hs.out.cur (by omega)).mono ?_); rintro e w2 ⟨kd, rfl, hkd, hc1, hd1⟩; have Hs := hide ((Hs.out.alloc _).dw hc1 hd1); have hkr := kdTab_rng hkd; clear hc1 hd1 hkd)
        have hz2 := Hs.out.size
        have hvb : (Value.slice vA L1.length vc).ownBlock ≠ some w2.heap.size := fun e => by have := Hs.out.row.lt e; omega
        have hbb : u11.ownBlock ≠ some w2.heap.size := fun e => by have := Hs.out.own.lt _ e; omega
        have Hb := hide (Bk.new w2 140 #[.int .i64 kd, .int .i64 0, .slice none 0 0, .slice none 0 0, .slice none 0 0])
        have Hs := hide (Hs.out.alloc (.cells #[.int .i64 kd, .int .i64 0, .slice none 0 0, .slice none 0 0, .slice none 0 0] 140))
        generalize hsb : w2.heap.size = sb at *
        generalize w2.alloc (.cells #[.int .i64 kd, .int .i64 0, .slice none 0 0, .slice none 0 0, .slice none 0 0] 140) = w3 at *
        have s0 := Hb.out.cell 0; have sl := Hb.out.lt
        have f0 := Hs.out.fn.cell 0; have f1 := Hs.out.fn.cell 1; have f2 := Hs.out.fn.cell 2; have f3 := Hs.out.fn.cell 3; have fl := Hs.out.fn.lt
        go_cut [90] (fun t wx => ∃ bad : Bool, t = .bool bad ∧ (bad = false → KdOk V L1 d loop kd) ∧ StS X g A c zs fb P V params (.slice pA params.length pc) base w v (K + 2 + Kb + 2) u11 b (.slice vA L1.length vc) L1 wx ∧ Bk wx sb 140 #[.int .i64 kd, .int .i64 0, .slice none 0 0, .slice none 0 0, .slice none 0 0])
        case first => as_aux_lemma =>
          -- H{ c1
          have hkc : kd = 3 ∨ kd = 7 ∨ kd = 8 ∨ kd = 1 ∨ (kd ≠ 3 ∧ kd ≠ 7 ∧ kd ≠ 8 ∧ kd ≠ 1) := by omega
          have hd' : d = 0 → dI = 0 := fun h => by have := HdI.out; omega
          clear HdI hd2
          -- A1
          by_cases hd0 : dI = 0
          · subst hd0
            cases loop
            · rcases hkc with rfl | rfl | rfl | rfl | ⟨hk3, hk7, hk8, hk1⟩
              · go_wp2_with (go_at_call 118; go_must (refine (spec_l3Sites [_, _, _, _] ⟨P, V, [], L1⟩ _ Hs.out.rfunc (show L1.length ≤ 16 by omega)).mono ?_); rintro e w4 ⟨sv, rfl, hown, hb⟩; obtain ⟨sA, sc, rfl⟩ := own_form hown; have hcnt := sites_count L1 0; have Hs := hide (Hs.out.below hb); have Hb := hide (Hb.out.below hb); clear hown hb)
                go_meet
                exact ⟨_, rfl, fun h => ⟨by omega, (fun h => by cases h), fun _ => by omega, fun _ => by omega, fun h4 => by rw [h4] at h; exact absurd h (by decide)⟩, Hs.out, Hb.out⟩
              · go_wp2_with fail
                go_meet
                exact ⟨true, rfl, (fun h => by cases h), Hs.out, Hb.out⟩
              · go_wp2_with fail
                go_meet
                exact ⟨true, rfl, (fun h => by cases h), Hs.out, Hb.out⟩
              · by_cases hV0 : V = 0
                · subst hV0
                  go_wp2_with fail
                  go_meet
                  exact ⟨true, rfl, (fun h => by cases h), Hs.out, Hb.out⟩
                · go_wp2_with fail
                  go_meet
                  exact ⟨_, rfl, (fun _ => ⟨by omega, fun _ => by omega, fun _ => by omega, fun h => absurd h hV0, fun _ => by omega⟩), Hs.out, Hb.out⟩
              · go_wp2_with fail
                go_meet
                exact ⟨_, rfl, (fun _ => ⟨hkr, fun _ => hk3, fun _ => ⟨hk7, hk8⟩, fun _ => hk1, fun _ => hk3⟩), Hs.out, Hb.out⟩
            · rcases hkc with rfl | rfl | rfl | rfl | ⟨hk3, hk7, hk8, hk1⟩
              · go_wp2_with fail
                go_meet
                exact ⟨true, rfl, (fun h => by cases h), Hs.out, Hb.out⟩
              · go_wp2_with fail
                go_meet
                exact ⟨true, rfl, (fun h => by cases h), Hs.out, Hb.out⟩
              · go_wp2_with fail
                go_meet
                exact ⟨true, rfl, (fun h => by cases h), Hs.out, Hb.out⟩
              · by_cases hV0 : V = 0
                · subst hV0
                  go_wp2_with fail
                  go_meet
                  exact ⟨true, rfl, (fun h => by cases h), Hs.out, Hb.out⟩
                · go_wp2_with fail
                  go_meet
                  exact ⟨_, rfl, (fun _ => ⟨by omega, fun _ => by omega, fun _ => by omega, fun h => absurd h hV0, fun _ => by omega⟩), Hs.out, Hb.out⟩
              · go_wp2_with fail
                go_meet
                exact ⟨_, rfl, (fun _ => ⟨hkr, fun _ => hk3, fun _ => ⟨hk7, hk8⟩, fun _ => hk1, fun _ => hk3⟩), Hs.out, Hb.out⟩
          · have hdn : d ≠ 0 := fun h => hd0 (hd' h)
            cases loop
            · rcases hkc with rfl | rfl | rfl | rfl | ⟨hk3, hk7, hk8, hk1⟩
              · go_wp2_with (go_at_call 118; go_must (refine (spec_l3Sites [_, _, _, _] ⟨P, V, [], L1⟩ _ Hs.out.rfunc (show L1.length ≤ 16 by omega)).mono ?_); rintro e w4 ⟨sv, rfl, hown, hb⟩; obtain ⟨sA, sc, rfl⟩ := own_form hown; have hcnt := sites_count L1 0; have Hs := hide (Hs.out.below hb); have Hb := hide (Hb.out.below hb); clear hown hb)
                go_meet
                exact ⟨_, rfl, fun h => ⟨by omega, (fun h => by cases h), fun _ => by omega, fun _ => by omega, fun h4 => by rw [h4] at h; exact absurd h (by decide)⟩, Hs.out, Hb.out⟩
              · go_wp2_with fail
                go_meet
                exact ⟨_, rfl, (fun _ => ⟨by omega, fun _ => by omega, fun h => absurd h hdn, fun _ => by omega, fun _ => by omega⟩), Hs.out, Hb.out⟩
              · go_wp2_with fail
                go_meet
                exact ⟨_, rfl, (fun _ => ⟨by omega, fun _ => by omega, fun h => absurd h hdn, fun _ => by omega, fun _ => by omega⟩), Hs.out, Hb.out⟩
              · by_cases hV0 : V = 0
                · subst hV0
                  go_wp2_with fail
                  go_meet
                  exact ⟨true, rfl, (fun h => by cases h), Hs.out, Hb.out⟩
                · go_wp2_with fail
                  go_meet
                  exact ⟨_, rfl, (fun _ => ⟨by omega, fun _ => by omega, fun _ => by omega, fun h => absurd h hV0, fun _ => by omega⟩), Hs.out, Hb.out⟩
              · go_wp2_with fail
                go_meet
                exact ⟨_, rfl, (fun _ => ⟨hkr, fun _ => hk3, fun _ => ⟨hk7, hk8⟩, fun _ => hk1, fun _ => hk3⟩), Hs.out, Hb.out⟩
            · rcases hkc with rfl | rfl | rfl | rfl | ⟨hk3, hk7, hk8, hk1⟩
              · go_wp2_with fail
                go_meet
                exact ⟨true, rfl, (fun h => by cases h), Hs.out, Hb.out⟩
              · go_wp2_with fail
                go_meet
                exact ⟨_, rfl, (fun _ => ⟨by omega, fun _ => by omega, fun h => absurd h hdn, fun _ => by omega, fun _ => by omega⟩), Hs.out, Hb.out⟩
              · go_wp2_with fail
                go_meet
                exact ⟨_, rfl, (fun _ => ⟨by omega, fun _ => by omega, fun h => absurd h hdn, fun _ => by omega, fun _ => by omega⟩), Hs.out, Hb.out⟩
              · by_cases hV0 : V = 0
                · subst hV0
                  go_wp2_with fail
                  go_meet
                  exact ⟨true, rfl, (fun h => by cases h), Hs.out, Hb.out⟩
                · go_wp2_with fail
                  go_meet
                  exact ⟨_, rfl, (fun _ => ⟨by omega, fun _ => by omega, fun _ => by omega, fun h => absurd h hV0, fun _ => by omega⟩), Hs.out, Hb.out⟩
              · go_wp2_with fail
                go_meet
                exact ⟨_, rfl, (fun _ => ⟨hkr, fun _ => hk3, fun _ => ⟨hk7, hk8⟩, fun _ => hk1, fun _ => hk3⟩), Hs.out, Hb.out⟩
          -- H}
        case rest => as_aux_lemma =>
          obtain ⟨bad, rfl, hkok, hs, hb⟩ := hcut
          have Hs := hide hs; have Hb := hide hb; have Hk := Lib.hid hkok
          clear hs hb hkok s0 sl f0 f1 f2 f3 fl
          have s0 := Hb.out.cell 0; have z0 := Hb.out.frozen 0; have sl := Hb.out.lt
          go_upto_if 90 with fail
          go_cut [] (fun wx => ∃ kd : Int, KdOk V L1 d loop kd ∧ StS X g A c zs fb P V params (.slice pA params.length pc) base w v (K + 2 + Kb + 2) u11 b (.slice vA L1.length vc) L1 wx ∧ Bk wx sb 140 #[.int .i64 kd, .int .i64 0, .slice none 0 0, .slice none 0 0, .slice none 0 0])
          case first => as_aux_lemma =>
            cases bad
            · go_wp2_with fail
              go_meet
              exact ⟨kd, Hk.out trivial, Hs.out, Hb.out⟩
            · go_wp2_with fail
              go_meet
              exact ⟨2, .two, Hs.out.set (by omega) hvb hbb Hb.out 0 _, Hb.out.set 0 _⟩
          case rest => as_aux_lemma =>
            obtain ⟨kd, hkok, hs, hb⟩ := hcut
            have Hs := hide hs; have Hb := hide hb; have Hk := hide hkok
            clear hs hb hkok s0 z0 sl
            have s0 := Hb.out.cell 0; have z0 := Hb.out.frozen 0; have sl := Hb.out.lt
            go_upto_region 9 with fail
            go_cut [99] (fun t wx => ∃ bd : Bool, t = .bool bd ∧ StS X g A c zs fb P V params (.slice pA params.length pc) base w v (K + 2 + Kb + 4) u11 b (.slice vA L1.length vc) L1 wx ∧ Bk wx sb 140 #[.int .i64 kd, .int .i64 0, .slice none 0 0, .slice none 0 0, .slice none 0 0])
            case first => as_aux_lemma =>
              -- H{ k6
              have hsg : sb ≠ g := by have := Hs.out.gf; omega
              by_cases h6 : kd = 6
              · subst h6
                go_wp2_with (go_at_call 68; go_must (refine (cur_one _ _ _ _ _ _ _ Hs.out.cur (by omega) (by omega)).mono ?_); rintro e w5 ⟨b1, rfl, hc1, hd1⟩; have Hs := hide (Hs.out.dw hc1 hd1); have Hb := hide (hd1.bk Hb.out hsg); clear hc1 hd1)
                go_meet
                exact ⟨_, rfl, Hs.out, Hb.out⟩
              · go_wp2_with fail
                go_meet
                exact ⟨false, rfl, Hs.out.more (by omega), Hb.out⟩
              -- H}
            case rest => as_aux_lemma =>
              obtain ⟨bd, rfl, hs, hb⟩ := hcut
              have Hs := hide hs; have Hb := hide hb
              clear hs hb s0 z0 sl
              have s0 := Hb.out.cell 0; have z0 := Hb.out.frozen 0; have sl := Hb.out.lt
              go_upto_if 99 with fail
              go_cut [] (fun wx => ∃ kd : Int, KdOk V L1 d loop kd ∧ StS X g A c zs fb P V params (.slice pA params.length pc) base w v (K + 2 + Kb + 4) u11 b (.slice vA L1.length vc) L1 wx ∧ Bk wx sb 140 #[.int .i64 kd, .int .i64 0, .slice none 0 0, .slice none 0 0, .slice none 0 0])
              case first => as_aux_lemma =>
                cases bd
                · go_wp2_with fail
                  go_meet
                  exact ⟨kd, Hk.out, Hs.out, Hb.out⟩
                · go_wp2_with fail
                  go_meet
                  exact ⟨9, .nine, Hs.out.set (by omega) hvb hbb Hb.out 0 _, Hb.out.set 0 _⟩
              case rest => as_aux_lemma =>
                obtain ⟨kd, hkok, hs, hb⟩ := hcut
                have Hs := hide hs; have Hb := hide hb; have Hk := hide hkok
                clear hs hb hkok s0 z0 sl
                have hp5 : params.length ≤ 5 := (parOk_iff.1 hpar).1
                have hp0 : 0 < params.length := by
                  rcases Nat.eq_zero_or_pos params.length with h | h
                  · have := Hz0.out; rw [List.eq_nil_of_length_eq_zero h] at this; simp at this
                  · exact h
                go_upto_block 2 with fail
                go_cut [15] (fun fv wx => ∃ fl : List Int, FreeS sb params fv fl wx ∧ StS X g A c zs fb P V params (.slice pA params.length pc) base w v (K + 2 + Kb + 4) u11 b (.slice vA L1.length vc) L1 wx ∧ Bk wx sb 140 #[.int .i64 kd, .int .i64 0, .slice none 0 0, .slice none 0 0, .slice none 0 0])
                case first => as_aux_lemma =>
                  -- H{ free
                  have sl := Hb.out.lt
                  obtain ⟨wo, hwo⟩ : ∃ wo : World, wo = wc := ⟨_, rfl⟩
                  subst hwo
                  go_wp2_with fail
                  go_loopw [15, 103] (fun fv kv wr => ∃ (k : Nat) (fl : List Int), k ≤ params.length ∧ kv = .int .i64 k ∧ fl.length ≤ k ∧ (0 < k → 0 < fl.length) ∧ (∀ x ∈ fl, ∃ (m : Nat) (h : m < params.length), x = (m : Int) ∧ params[m] = 0) ∧ wr.ownsRow wo.heap.size 3 1 fv fl.length (icells .i64 fl) ∧ Below wo.heap.size wo wr) (fun _ kv _ => params.length - (intOf kv).toNat)
                  case atStart => exact ⟨0, [], by omega, rfl, by simp, fun h => by omega, fun x h => by simp at h, World.ownsRow_nil _ _ _ _, Below.refl _ _⟩
                  case round =>
                    obtain ⟨k, fl, hk, rfl, hfl, hpos, hmem, hown, hbl⟩ := hrel
                    have Hown := hide hown; have Hbl := hide hbl; have Hmem := Lib.hid hmem; have Hpos := Lib.hid hpos
                    have hbs := hbl.size
                    clear hown hbl hmem hpos
                    by_cases hlt : k < params.length
                    · have hltI : (k : Int) < (params.length : Int) := by omega
                      obtain ⟨pb, po, rfl, hpbB, hcell⟩ := (Rd.of_own (Hs.out.below Hbl.out).par).at_ (j := k) (by rw [icells_length]; exact hlt)
                      rw [icells_get _ _ hlt] at hcell
                      obtain ⟨z, hz⟩ : ∃ z, z = params[k] := ⟨_, rfl⟩
                      rw [← hz] at hcell
                      have Hz := hide hz
                      clear hz
                      by_cases hz0 : z = 0
                      · subst hz0
                        go_wp2_with (at_builtin; refine wpList_pushG rfl _ _ _ rfl okI64 rfl Hown.out _ rfl rfl rfl (by simp [Value.oneCell']) (by unfold maxLen; omega) (by omega) hbs ?_; intro v2 w9 hown9 hg9; have Ho9 := hide hown9; have Hg9 := hide hg9; clear hown9 hg9)
                        go_roundw
                        case rel => exact ⟨k + 1, fl ++ [(k : Int)], by omega, by go_num, by simp; omega, fun _ => by simp, fun x hx => by
                          rcases List.mem_append.1 hx with hx | hx
                          · exact Hmem.out x hx
                          · exact ⟨k, hlt, by simpa using hx, Hz.out.symm⟩, by rw [show (fl ++ [(k : Int)]).length = fl.length + 1 by simp, icells_append]; exact Ho9.out, Hbl.out.trans (Hg9.out.toBelow Hown.out hbs)⟩
                        case measure => simp [intOf]; omega
                      · go_wp2_with fail
                        go_roundw
                        case rel => exact ⟨k + 1, fl, by omega, by go_num, by omega, fun _ => Hpos.out (by
                          rcases Nat.eq_zero_or_pos k with h | h
                          · subst h
                            exfalso; apply hz0; rw [Hz.out]
                            simpa [List.getD, List.getElem?_eq_getElem hlt] using Hz0.out
                          · exact h), Hmem.out, Hown.out, Hbl.out⟩
                        case measure => simp [intOf]; omega
                    · obtain rfl : k = params.length := by omega
                      go_wp2_with fail
                      go_meet
                      exact ⟨fl, ⟨own_base Hown.out (by omega), Hpos.out hp0, by omega, Hmem.out⟩, Hs.out.below Hbl.out, Hb.out.below Hbl.out⟩
                  -- H}
                case rest => as_aux_lemma =>
                  obtain ⟨fl, hf, hs, hb⟩ := hcut
                  have Hs := hide hs; have Hb := hide hb; have Hf := hide hf
                  clear hs hb hf
                  have s0 := Hb.out.cell 0; have sl := Hb.out.lt
                  go_upto_region 18 with fail
                  go_cut [122] (fun t wx => t = .bool (decide (kd ≠ 3 ∧ kd ≠ 6)) ∧ wx = wc)
                  case first => as_aux_lemma =>
                    -- H{ r18
                    by_cases h3 : kd = 3
                    · have b3 : (kd != 3) = false := by simp [h3]
                      go_wp2_with fail
                      go_meet
                      exact ⟨congrArg Value.bool (decide_eq_false (by omega)).symm, rfl⟩
                    · have b3 : (kd != 3) = true := by simp [h3]
                      by_cases h6 : kd = 6
                      · have b6 : (kd != 6) = false := by simp [h6]
                        go_wp2_with fail
                        go_meet
                        exact ⟨congrArg Value.bool (decide_eq_false (by omega)).symm, rfl⟩
                      · have b6 : (kd != 6) = true := by simp [h6]
                        go_wp2_with fail
                        go_meet
                        exact ⟨congrArg Value.bool (decide_eq_true (by omega)).symm, rfl⟩
                    -- H}
                  case rest => as_aux_lemma =>
                    obtain ⟨ht, rfl⟩ := hcut
                    obtain ⟨q, hq⟩ : ∃ q : Bool, q = decide (kd ≠ 3 ∧ kd ≠ 6) := ⟨_, rfl⟩
                    rw [← hq] at ht
                    subst ht
                    have Hq := hide hq
                    clear hq s0 sl
                    go_upto_if 122 with fail
                    go_cut [] (fun wx => ∃ (ev : Value) (ex : List P2), ExOk V params kd ex ∧ Rk (Xv X u11) fb 142 2 wx ev ex.length (pcells ex) ∧ FreeS sb params u15 fl wx ∧ StS X g A c zs fb P V params (.slice pA params.length pc) base w v (K + 2 + Kb + 190) u11 b (.slice vA L1.length vc) L1 wx ∧ Bk wx sb 140 #[.int .i64 kd, .int .i64 0, ev, .slice none 0 0, .slice none 0 0])
                    case first => as_aux_lemma =>
                      -- H{ r19
                      cases q
                      · go_wp2_with fail
                        go_meet
                        exact ⟨.slice none 0 0, [], ⟨fun _ => rfl, fun a1 a2 => by have := Hq.out; rw [decide_eq_true ⟨a1, a2⟩] at this; cases this⟩, Rk.nil _ _ _ _ _, Hf.out, Hs.out.more (by omega), Hb.out⟩
                      · have hsg : sb ≠ g := by have := Hs.out.gf; omega
                        have hgsb : g < sb := by have := Hs.out.gf; omega
                        have g1 := Hs.out.fn.cell 1; have gl := Hs.out.fn.lt
                        have hsb0 : w.heap.size ≤ sb := by omega
                        have Hwr := hide (show ∀ y : Nat, y < 2 → IntKind.i64.wrap (1 + (y : Int)) = 1 + (y : Int) from fun y hy => IntWalk.i64_in _ (by omega))
                        go_wp2_with fail
                        go_region_held3 (fun w' => w'.cell? ⟨fb, 1, none⟩ = some (.int .i64 V) ∧ fb < w'.heap.size) (first | exact ⟨g1, gl⟩ | exact ⟨g5, gl5⟩ | exact ⟨g6, gl6⟩ | exact ⟨g7, gl7⟩ | exact ⟨(Hs7.out.set hsb0 hvb hbb Hb7.out 2 _).fn.cell 1, (Hs7.out.set hsb0 hvb hbb Hb7.out 2 _).fn.lt⟩)
                          (first
                            | (go_at_call 44; go_must (refine (cur_pick g A c zs (K + 2 + Kb + 4) _ _ (by first | with_reducible exact Hs.out.cur | with_reducible exact Hs.out.cur.drw) (by omega) (by omega)).mono ?_); rintro e w5 ⟨x5, rfl, hx5, hc1, hd1⟩; obtain ⟨y5, rfl, hy5⟩ := pick_nat (n := 2) hx5 (by decide); have Hs5 := hide (StS.dw (by first | with_reducible exact Hs.out | with_reducible exact Hs.out.drw) hc1 hd1); have Hb5 := hide (hd1.bk (by first | with_reducible exact Hb.out | with_reducible exact Hb.out.drew) hsg); have Hf5 := hide (FreeS.dw (by first | with_reducible exact Hf.out | with_reducible exact Hf.out.dw (.of (Below.refl _ _).drew) hgsb) hd1 hgsb); have hz5 := hd1.size; have g5 := Hs5.out.fn.cell 1; have gl5 := Hs5.out.fn.lt; clear hc1 hd1 hx5)
                            | (go_at_call 68; go_must (refine (cur_one g A c zs (K + 2 + Kb + 4 + 2) _ _ Hs5.out.cur (by omega) (by omega)).mono ?_); rintro e w6 ⟨b6, rfl, hc1, hd1⟩; have Hs6 := hide (Hs5.out.dw hc1 hd1); have Hb6 := hide (hd1.bk Hb5.out hsg); have Hf6 := hide (Hf5.out.dw hd1 hgsb); have hz6 := hd1.size; have g6 := Hs6.out.fn.cell 1; have gl6 := Hs6.out.fn.lt; clear hc1 hd1)
                            | (go_at_call 131; go_must (refine (cur_exprI g A c zs V hv0 hv6 params hpar y5 hy5 _ (by first | exact Hwr.out _ hy5 | rfl) (K + 2 + Kb + 4 + 2 + 2) _ _ base _ Hs6.out.cur (by omega) Hs6.out.par Hs6.out.gf.1).mono ?_); rintro e w7 ⟨ev, ex, rfl, hoe, hex, hc1, hd1⟩; obtain ⟨evA, evc, rfl⟩ := own_form hoe; have Hex := hide hex; have Hr7 := hide (Hs6.out.rk hoe (Nat.le_refl _)); have Hs7 := hide (Hs6.out.dw hc1 hd1); have hb7 := hd1.bk Hb6.out hsg; have Hb7 := hide hb7; have Hf7 := hide (Hf6.out.dw hd1 hgsb); have s2 := hb7.cell 2; have z2 := hb7.frozen 2; have sl7 := hb7.lt; have g7 := Hs7.out.fn.cell 1; have gl7 := Hs7.out.fn.lt; clear hc1 hd1 hoe hex hb7))
                        all_goals
                          go_wp2_with fail
                          go_meet
                          exact ⟨_, ex, ⟨fun h => by have := Hq.out; have := of_decide_eq_true this.symm; omega, fun _ _ => Hex.out⟩, Hr7.out.keep (by decide) (.sets Hb7.out 2 _), Hf7.out.set 2 _, (Hs7.out.more (by omega)).set (by omega) hvb hbb Hb7.out 2 _, Hb7.out.set 2 _⟩
                      -- H}
                    case rest => as_aux_lemma =>
                      obtain ⟨ev, ex, hex, hrk, hf, hs, hb⟩ := hcut
                      have Hex := hide hex; have Hrk := hide hrk; have Hf := hide hf; have Hs := hide hs; have Hb := hide hb
                      obtain ⟨evA, evc, rfl⟩ := own_form hrk.1
                      clear hex hrk hf hs hb
                      have s0 := Hb.out.cell 0; have sl := Hb.out.lt
                      go_upto_block 4 with fail
                      go_cut [] (fun wx => ∃ N : Int, StG V params ⟨kd, N, ex, [], []⟩ ∧ Rk (Xv X u11) fb 142 2 wx (.slice evA ex.length evc) ex.length (pcells ex) ∧ StS X g A c zs fb P V params (.slice pA params.length pc) base w v (K + 2 + Kb + 200) u11 b (.slice vA L1.length vc) L1 wx ∧ Bk wx sb 140 #[.int .i64 kd, .int .i64 N, .slice evA ex.length evc, .slice none 0 0, .slice none 0 0])
                      case first => as_aux_lemma =>
                        -- H{ sw
                        have hsg : sb ≠ g := by have := Hs.out.gf; omega
                        have hgsb : g < sb := by have := Hs.out.gf; omega
                        have hgf2 := Hs.out.gf.2.1
                        have g1 := Hs.out.fn.cell 1; have gl := Hs.out.fn.lt
                        have hfl5 := Hf.out.len; have hflp := Hf.out.pos
                        have s1 := Hb.out.cell 1; have z1 := Hb.out.frozen 1
                        by_cases h1 : kd = 1
                        · subst h1
                          have hV : 0 < V := by
                            have := Hk.out.v
                            rcases Int.lt_or_le 0 V with h | h
                            · exact h
                            · exact absurd rfl (this (by omega))
                          go_wp2_with (go_at_call 44; go_must (refine (cur_pick g A c zs (K + 2 + Kb + 190) _ _ Hs.out.cur (by omega) (by omega)).mono ?_); rintro e w8 ⟨x8, rfl, ⟨hx8, hx9⟩, hc1, hd1⟩; have hx10 := hx9 (by omega); have Hrk8 := hide (Hrk.out.keep (by decide) (.dw hgf2 hd1)); have Hs8 := hide (Hs.out.dw hc1 hd1); have hb8 := hd1.bk Hb.out hsg; have Hb8 := hide hb8; have q1 := hb8.cell 1; have y1 := hb8.frozen 1; have l8 := hb8.lt; have hz8 := hd1.size; clear hc1 hd1 hb8 hx9)
                          go_meet
                          exact ⟨x8, stG_set (Hex.out.2 (by omega) (by omega)).1 (by have := (Hex.out.2 (by omega) (by omega)).2; omega) hx8 hx10, Hrk8.out.keep (by decide) (.sets Hb8.out 1 _), (Hs8.out.more (by omega)).set (by omega) hvb hbb Hb8.out 1 _, Hb8.out.set 1 _⟩
                        by_cases h3 : kd = 3
                        · subst h3
                          have hex0 := Hex.out.1 (.inl rfl)
                          obtain ⟨fA, fc, rfl⟩ := own_form Hf.out.own
                          go_wp2_with (go_at_call 44; go_must (refine (cur_pick g A c zs (K + 2 + Kb + 190) _ _ Hs.out.cur (by omega) (by omega)).mono ?_); rintro e w8 ⟨x8, rfl, hx8, hc1, hd1⟩; obtain ⟨k8, rfl, hk8⟩ := pick_nat hx8 hflp; have hk8I : (k8 : Int) < (fl.length : Int) := Int.ofNat_lt.2 hk8; have Hrk8 := hide (Hrk.out.keep (by decide) (.dw hgf2 hd1)); have Hs8 := hide (Hs.out.dw hc1 hd1); have hb8 := hd1.bk Hb.out hsg; have Hb8 := hide hb8; have q1 := hb8.cell 1; have y1 := hb8.frozen 1; have l8 := hb8.lt; have hz8 := hd1.size; obtain ⟨pb, po, hfe, hpl, hcell⟩ := (Rd.of_own (Hf.out.dw hd1 hgsb).own).at_ (j := k8) (by rw [icells_length]; exact hk8); rw [icells_get _ _ hk8] at hcell; cases hfe; clear hc1 hd1 hb8 hx8)
                          go_meet
                          obtain ⟨m8, hm8, hm9, hm10⟩ := Hf.out.mem _ (List.getElem_mem hk8)
                          subst hex0
                          refine ⟨(m8 : Int), stG_defer hm8 hm10, Hrk8.out.keep (by decide) (.sets Hb8.out 1 _), ?_, ?_⟩
                          · rw [hm9]; exact (Hs8.out.more (by omega)).set (by omega) hvb hbb Hb8.out 1 _
                          · rw [hm9]; exact Hb8.out.set 1 _
                        · go_wp2_with fail
                          go_meet
                          exact ⟨0, stG_of Hk.out.rng h1 h3 Hex.out, Hrk.out, Hs.out.more (by omega), Hb.out⟩
                        -- H}
                      case rest => as_aux_lemma =>
                        obtain ⟨N, hsg, hrk, hs, hb⟩ := hcut
                        have Hsg := hide hsg; have Hrk := hide hrk; have Hs := hide hs; have Hb := hide hb
                        clear hsg hrk hs hb s0 sl
                        have hsz8 := Hs.out.size
                        have hb3 : b.length ≤ 3 := by omega
                        go_upto_region 25 with fail
                        go_wp2_with (at_builtin; refine wpList_pushG rfl _ _ _ rfl okI64 rfl Hs.out.own _ rfl rfl rfl (by simp [Value.oneCell']) (by unfold maxLen; omega) (by omega) hsz8 ?_; intro v9 w9 hown9 hg9; have Hs9 := hide (Hs.out.pushB (b1 := b ++ [(L1.length : Int)]) (by rw [List.length_append, icells_append]; exact hown9) hg9); have Hg9 := hide (show Gro _ w9 u11 v9 from hg9); clear hown9 hg9)
                        obtain ⟨bA, bc, rfl⟩ : ∃ A c, v9 = .slice A (b.length + 1) c := by have := own_form Hs9.out.own; rw [List.length_append] at this; exact this
                        have hb9 := Hg9.out.bk Hb.out (fun e => hbb e.symm)
                        have Hb9 := hide hb9
                        have hbb9 : (Value.slice bA (b.length + 1) bc).ownBlock ≠ some sb := by
                          rcases Hg9.out.b with e | ⟨j, e, hj⟩
                          · rw [e]; exact hbb
                          · rw [e]; intro e2; injection e2 with e2; have := Hb.out.lt; omega
                        have hrk9 : Rk (Xv X (.slice bA (b.length + 1) bc)) fb 142 2 w9 (.slice evA ex.length evc) ex.length (pcells ex) := by
                          refine ⟨?_, fun k hk => ?_⟩
                          · exact own_gro Hrk.out.own Hg9.out (fun q hq => own_types Hrk.out.own Hs.out.own (by decide) hq)
                          · rintro (h | h)
                            · exact Hrk.out.nx k hk (.inl h)
                            · rcases Hg9.out.b with e | ⟨j, e, hj⟩
                              · exact Hrk.out.nx k hk (.inr (by rw [← e]; exact h))
                              · rw [e] at h; injection h with h; have := (Hrk.out.own.lt k hk).2; omega
                        have Hrk9 := hide hrk9
                        clear hrk9 hb9
                        obtain ⟨xs9, hown9⟩ := Hs9.out.row.own
                        have Hw9 := hide hown9
                        clear hown9
                        have f0 := Hs9.out.fn.cell 0; have f1 := Hs9.out.fn.cell 1; have f2 := Hs9.out.fn.cell 2; have f3 := Hs9.out.fn.cell 3; have fl := Hs9.out.fn.lt
                        have s0 := Hb9.out.cell 0; have s1 := Hb9.out.cell 1; have s2 := Hb9.out.cell 2; have s3 := Hb9.out.cell 3; have s4 := Hb9.out.cell 4; have sl := Hb9.out.lt
                        have hfb9 : fb + 1 ≤ w9.heap.size := fl
                        go_cut [] (fun wx => ∃ (v2A : Option Addr) (v2c : Nat), Rk (Xv X (.slice bA (b.length + 1) bc)) fb 142 2 wx (.slice evA ex.length evc) ex.length (pcells ex) ∧ (Value.slice v2A (L1.length + 1) v2c).ownBlock ≠ some sb ∧ StS X g A c zs fb P V params (.slice pA params.length pc) base w v (K + 2 + Kb + 200) (.slice bA (b.length + 1) bc) (b ++ [(L1.length : Int)]) (.slice v2A (L1.length + 1) v2c) (L1 ++ [⟨kd, N, ex, [], []⟩]) wx ∧ Bk wx sb 140 #[.int .i64 kd, .int .i64 N, .slice evA ex.length evc, .slice none 0 0, .slice none 0 0])
                        case first => as_aux_lemma =>
                          -- H{ r26
                          have HsA := hide (Hs9.out.alloc (.cells #[.int .i64 kd, .int .i64 N, .slice evA ex.length evc, .slice none 0 0, .slice none 0 0] 140)).drw
                          have HbA := hide (Hb9.out.alloc (.cells #[.int .i64 kd, .int .i64 N, .slice evA ex.length evc, .slice none 0 0, .slice none 0 0] 140)).drew
                          have HrA := hide (Hrk9.out.keep (by decide) (.dw (g := g) Hs9.out.gf.2.1 (((Dw.refl g w9).alloc (.cells #[.int .i64 kd, .int .i64 N, .slice evA ex.length evc, .slice none 0 0, .slice none 0 0] 140)).then (Below.refl _ _).drew)))
                          have hgfb := Hs9.out.gf.2.1
                          go_wp2_with fail
                          go_region_law ((refine step_catOwn rfl 168 rfl (.tmp 165) (.tmp 167) 133 rfl okStmt (by simp [Act.eval, Act.put]) (own_dr (Hw9.out.alloc _)) (by simp [Act.eval, Act.put]) (own_dr (World.ownsRow_lit (base := 0) (e := 140) (size := 5) w9 #[.int .i64 kd, .int .i64 N, .slice evA ex.length evc, .slice none 0 0, .slice none 0 0] 1 (Nat.zero_le _) (by unfold maxLen; omega) rfl)) (five_one rfl rfl rfl) (by unfold maxLen; omega) (by omega) (by show _ ≤ (w9.alloc _).heap.size; rw [World.size_alloc]; exact Nat.le_succ_of_le hfb9) ?_; intro v10 w10 hown10 hg10; obtain ⟨v2A, v2c, rfl⟩ := own_form hown10; have k10 := hg10.bk HsA.out.fn (fun e => by have := (HsA.out.row.lt e.symm).1; omega); have k3 := k10.cell 3; have y3 := k10.frozen 3; have kl := k10.lt; have Hg10 := hide hg10; have Ho10 := hide hown10; clear k10 hown10 hg10))
                          all_goals
                            go_wp2_with fail
                            go_meet
                            refine ⟨v2A, v2c, ?_, ?_, ?_, ?_⟩
                            · exact (HrA.out.keep (by decide) (HsA.out.row.ks hgfb (.gro Hg10.out))).keep (by decide) (.setf _ _ _)
                            · rcases Hg10.out.b with e | ⟨j, e, hj⟩
                              · rw [e]; exact hvb
                              · rw [e]; intro e2; injection e2 with e2; have := HbA.out.lt; omega
                            · exact HsA.out.pushL (cs := [.int .i64 kd, .int .i64 N, .slice evA ex.length evc, .slice none 0 0, .slice none 0 0]) ⟨_, _, _, rfl, HrA.out, Rk.nil _ _ _ _ _, Rk.nil _ _ _ _ _⟩ (HsA.out.ok.push hl Hsg.out (fun h3 h4 => Hk.out.s h4 h3)) (own_dr (Hw9.out.alloc _)) Ho10.out Hg10.out
                            · exact (Hg10.out.bk HbA.out (fun e => hvb e.symm)).far (by omega) 3 _
                          -- H}
                        case rest => as_aux_lemma =>
                          obtain ⟨v2A, v2c, hrk, hvb2, hs, hb⟩ := hcut
                          have Hrk := hide hrk; have Hs := hide hs; have Hb := hide hb
                          clear hrk hs hb s0 s1 s2 s3 s4 sl f0 f1 f2 f3 fl Hw9 Hrk9 Hb9 Hs9 Hg9
                          have s0 := Hb.out.cell 0; have sl := Hb.out.lt
                          have hsg : sb ≠ g := by have := Hs.out.gf; omega
                          have hsf : sb ≠ fb := by have := Hs.out.gf; omega
                          have hgfb := Hs.out.gf.2.1
                          have hsb0 : w.heap.size ≤ sb := by omega
                          go_upto_block 5 with fail
                          go_cut [] (fun wx => ∃ (v3A : Option Addr) (v3c : Nat) (L2 : List StmtM) (m : StmtM) (a3 a4 : Value), AftS V params loop L1 ⟨kd, N, ex, [], []⟩ m L2 ∧ SC (Xv X (.slice bA (b.length + 1) bc)) fb wx [.int .i64 kd, .int .i64 N, .slice evA ex.length evc, a3, a4] m ∧ (Value.slice v3A L2.length v3c).ownBlock ≠ some sb ∧ StS X g A c zs fb P V params (.slice pA params.length pc) base w v (K + 2 + Kb + sR d) (.slice bA (b.length + 1) bc) (b ++ [(L1.length : Int)]) (.slice v3A L2.length v3c) L2 wx ∧ Bk wx sb 140 #[.int .i64 kd, .int .i64 N, .slice evA ex.length evc, a3, a4])
                          case first => as_aux_lemma =>
                            -- H{ nest
                            have hRp := sR_pos d
                            have hdd := Hk.out.d
                            have hlen : (L1 ++ [(⟨kd, N, ex, [], []⟩ : StmtM)]).length = L1.length + 1 := by simp
                            by_cases h78 : kd = 7 ∨ kd = 8
                            · have hN := stG_N0 Hsg.out h78
                              subst hN
                              obtain ⟨d', rfl⟩ : ∃ d', d = d' + 1 := ⟨d - 1, by
                                rcases Nat.eq_zero_or_pos d with h | h
                                · have := hdd h; omega
                                · omega⟩
                              have hsR : sR (d' + 1) = 230 + 2 * sT d' := rfl
                              have hsT : sT (d' + 1) = 700 + 6 * sT d' := rfl
                              have hdI1 : 1 ≤ dI := by have := HdI.out; omega
                              have hdI2 : dI ≤ 3 := by have := HdI.out; omega
                              have HdI1 := hide (show dI - 1 = ((d' : Nat) : Int) by have := HdI.out; omega)
                              have Hgd := hide (Hex.out.2 (by omega) (by omega))
                              have hvb2' : (Value.slice v2A (L1 ++ [(⟨kd, 0, ex, [], []⟩ : StmtM)]).length v2c).ownBlock ≠ some sb := by rw [hlen]; exact hvb2
                              have hs' : StS X g A c zs fb P V params (.slice pA params.length pc) base w v (K + 2 + Kb + 200) (.slice bA (b.length + 1) bc) (b ++ [(L1.length : Int)]) (.slice v2A (L1 ++ [(⟨kd, 0, ex, [], []⟩ : StmtM)]).length v2c) (L1 ++ [⟨kd, 0, ex, [], []⟩]) wc := by rw [hlen]; exact Hs.out
                              have He := hide (NestE.mk hs' Hb.out hvb2')
                              clear hdd hs' hvb2' hlen
                              by_cases h7 : kd = 7
                              · subst h7
                                go_wp2_with (first
                                  | (go_at_call 121; refine (nest_call HIH.out rfl (dI - 1) HdI1.out loop (K := K + 2 + Kb + 200 + sT d' + 2) He2.out (by omega) hsg hsf).mono ?_; rintro e w14 ⟨bEA, bEc, lE, v14A, v14c, L14, rfl, hn⟩; have Hn2 := hide hn; have s4 := hn.sbk.cell 4; have z4 := hn.sbk.frozen 4; have sl14 := hn.sbk.lt; have He3 := hide (hn.e hsb0 hbb9 4 (.slice bEA lE.length bEc)); clear hn)
                                  | (go_at_call 121; refine (nest_call HIH.out rfl (dI - 1) HdI1.out loop (K := K + 2 + Kb + 200) He.out (by omega) hsg hsf).mono ?_; rintro e w11 ⟨bTA, bTc, lT, v11A, v11c, L11, rfl, hn⟩; have Hn1 := hide hn; have s3 := hn.sbk.cell 3; have z3 := hn.sbk.frozen 3; have sl11 := hn.sbk.lt; have He1 := hide (hn.e hsb0 hbb9 3 (.slice bTA lT.length bTc)); clear hn)
                                  | (go_at_call 68; go_must (refine (cur_one g A c zs (K + 2 + Kb + 200 + sT d') _ _ He1.out.st.cur (by omega) (by omega)).mono ?_); rintro e w13 ⟨b13, rfl, hc1, hd1⟩; have Hd13 := hide hd1; have He2 := hide (He1.out.one hc1 hd1 hsg); clear hc1 hd1))
                                -- one says yes, or no
                                all_goals
                                  have Hr1 := hide ((Hrk.out.keep (by decide) Hn1.out.ks).keep (by decide) (.sets Hn1.out.sbk 3 (.slice bTA lT.length bTc)))
                                  have Ht1 := hide (Hn1.out.rk.keep (by decide) (.sets Hn1.out.sbk 3 (.slice bTA lT.length bTc)))
                                  have Hr2 := hide (Hr1.out.keep (by decide) (.dw hgfb Hd13.out))
                                  have Ht2 := hide (Ht1.out.keep (by decide) (.dw hgfb Hd13.out))
                                  go_meet
                                  first
                                    | exact ⟨v14A, v14c, L14, _, _, _, AftS.else7 Hgd.out.1 Hgd.out.2 (AftS.then7 Hgd.out.1 Hgd.out.2 Hn1.out.nst) Hn2.out.nst, ⟨_, _, _, rfl, (Hr2.out.keep (by decide) Hn2.out.ks).keep (by decide) (.sets Hn2.out.sbk 4 _), (Ht2.out.keep (by decide) Hn2.out.ks).keep (by decide) (.sets Hn2.out.sbk 4 _), Hn2.out.rk.keep (by decide) (.sets Hn2.out.sbk 4 _)⟩, He3.out.v, He3.out.st.more (by omega), He3.out.sbk⟩
                                    | exact ⟨v11A, v11c, L11, _, _, _, AftS.then7 Hgd.out.1 Hgd.out.2 Hn1.out.nst, ⟨_, _, _, rfl, Hr2.out, Ht2.out, Rk.nil _ _ _ _ _⟩, He2.out.v, He2.out.st.more (by omega), He2.out.sbk⟩
                              · obtain rfl : kd = 8 := by omega
                                go_wp2_with (go_at_call 121; refine (nest_call HIH.out rfl (dI - 1) HdI1.out true (K := K + 2 + Kb + 200) He.out (by omega) hsg hsf).mono ?_; rintro e w11 ⟨bTA, bTc, lT, v11A, v11c, L11, rfl, hn⟩; have Hn1 := hide hn; have s3 := hn.sbk.cell 3; have z3 := hn.sbk.frozen 3; have sl11 := hn.sbk.lt; have He1 := hide (hn.e hsb0 hbb9 3 (.slice bTA lT.length bTc)); clear hn)
                                have Hr1 := hide ((Hrk.out.keep (by decide) Hn1.out.ks).keep (by decide) (.sets Hn1.out.sbk 3 (.slice bTA lT.length bTc)))
                                have Ht1 := hide (Hn1.out.rk.keep (by decide) (.sets Hn1.out.sbk 3 (.slice bTA lT.length bTc)))
                                go_meet
                                exact ⟨v11A, v11c, L11, _, _, _, AftS.while8 Hgd.out.1 Hgd.out.2 Hn1.out.nst, ⟨_, _, _, rfl, Hr1.out, Ht1.out, Rk.nil _ _ _ _ _⟩, He1.out.v, He1.out.st.more (by omega), He1.out.sbk⟩
                            · have b7 : ¬ kd = 7 := by omega
                              have b8 : ¬ kd = 8 := by omega
                              go_wp2_with fail
                              go_meet
                              exact ⟨v2A, v2c, L1 ++ [⟨kd, N, ex, [], []⟩], ⟨kd, N, ex, [], []⟩, _, _, AftS.none Hsg.out rfl rfl, ⟨_, _, _, rfl, Hrk.out, Rk.nil _ _ _ _ _, Rk.nil _ _ _ _ _⟩, by rw [hlen]; exact hvb2, by rw [hlen]; exact Hs.out.more (by omega), Hb.out⟩
                            -- H}
                          case rest => as_aux_lemma =>
                            -- H{ end
                            obtain ⟨v3A, v3c, L2, m, a3, a4, haft, hsc, hvb3, hs, hb⟩ := hcut
                            have hL2 : L1.length < L2.length := by obtain ⟨T, rfl⟩ := haft.pre; simp
                            have hatL : m.qKind = (atS L2 L1.length).qKind := by
                              obtain ⟨T, rfl⟩ := haft.pre
                              rw [haft.k, atS_app (by simp), atS_lt (by simp)]; simp
                            obtain ⟨x3, ho3⟩ := hs.row.own
                            obtain ⟨q3, c3, hq3⟩ := own_some ho3 (by omega)
                            cases hq3
                            obtain ⟨⟨A3, n3, cc3, rfl⟩, A4, n4, cc4, rfl⟩ : (∃ A n c, a3 = .slice A n c) ∧ ∃ A n c, a4 = .slice A n c := by
                              obtain ⟨w2, w3, w4, he, r1, r2, r3⟩ := hsc
                              obtain ⟨A, c, e⟩ := own_form r2.own
                              obtain ⟨A', c', e'⟩ := own_form r3.own
                              simp only [List.cons.injEq, and_true] at he
                              exact ⟨⟨A, _, c, he.2.2.2.1.trans e⟩, A', _, c', he.2.2.2.2.trans e'⟩
                            have Haft := hide haft; have Hsc := hide hsc; have Hs := hide hs; have Hb := hide hb; have Hat := hide hatL
                            clear hatL
                            obtain ⟨u0, p0, y0⟩ := own_five ho3 hL2 0 (by omega); obtain ⟨u1, p1, y1⟩ := own_five ho3 hL2 1 (by omega); obtain ⟨u2, p2, y2⟩ := own_five ho3 hL2 2 (by omega); obtain ⟨u3', p3, y3⟩ := own_five ho3 hL2 3 (by omega); obtain ⟨u4', p4, y4⟩ := own_five ho3 hL2 4 (by omega)
                            have ql := (ho3.lt q3 rfl).2
                            have hqs : q3 ≠ sb := fun e => hvb3 (by rw [e]; rfl)
                            have hqf : q3 ≠ fb := by have := (hs.row.lt (k := q3) rfl).1; omega
                            clear haft hsc hs hb ho3 s0 sl
                            have f3 := Hs.out.fn.cell 3; have fl := Hs.out.fn.lt
                            have s0 := Hb.out.cell 0; have s1 := Hb.out.cell 1; have s2 := Hb.out.cell 2; have s3 := Hb.out.cell 3; have s4 := Hb.out.cell 4; have sl := Hb.out.lt
                            have hL2I : (L1.length : Int) < (L2.length : Int) := by omega
                            have hL2J : (0 : Int) ≤ (L1.length : Int) := Int.natCast_nonneg _
                            rw [Nat.add_zero] at p0 y0
                            go_upto_region 34 with fail
                            have Hs2 := hide (Hs.out.setL hL2 Hsc.out Haft.out.g Hat.out).drw
                            have Hdn := hide (Haft.out.done Hseg.out Hk.out.l Hpre.out rfl)
                            go_still_tail 7, (by kernel_rfl)
                            change wpList _ _ _ _ _ wc.drew
                            go_upto_region 4 with fail
                            clear Hs Hb Haft Hsc Hat p0 p1 p2 p3 p4 y0 y1 y2 y3 y4 s0 s1 s2 s3 s4 f3
                            go_wp2_with fail
                            go_roundw
                            case rel =>
                                refine ⟨n - 1, b ++ [(L1.length : Int)], .slice (some ⟨q3, 0, none⟩) L2.length v3c, L2.set L1.length m, congrArg (Value.int .i64) (by omega), by simp; omega, ?_, Hdn.out.1, Hdn.out.2⟩
                                rw [show (b ++ [(L1.length : Int)]).length * sR d = Kb + sR d by rw [List.length_append]; exact hbS, ← Nat.add_assoc]
                                with_reducible exact Hs2.out
                            case measure => simp [intOf]; omega
                            -- H}
/-- a draw of statements, so deep -/
theorem cur_stmts (g : Nat) (A : Option Addr) (c : Nat) (zs : List Int) (P V : Int) (hv0 : 0 ≤ V) (hv6 : V ≤ 6) (params : List Int) (hpar : parOk params = true) (hz0 : params.getD 0 1 = 0) (fb base : Nat) (pA : Option Addr) (pc : Nat) : ∀ (d : Nat), d ≤ 2 → StmtsC g A c zs P V params fb base pA pc d := by
  intro d
  induction d with
  | zero => intro h; exact stmts_step g A c zs P V hv0 hv6 params hpar hz0 fb base pA pc 0 h fun d' h => by omega
  | succ d ih =>
    intro h
    refine stmts_step g A c zs P V hv0 hv6 params hpar hz0 fb base pA pc (d + 1) h (fun d' h' => ?_)
    obtain rfl : d' = d := by omega
    exact ih (by omega)
end Go.Proofs.YtgkjakoagdkpcaaGreatDoor
