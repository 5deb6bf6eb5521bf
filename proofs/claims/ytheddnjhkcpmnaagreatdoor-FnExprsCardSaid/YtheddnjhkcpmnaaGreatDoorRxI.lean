
/- impl.ReadExpr: what the Go text returns. Conditions: the library's variables hold something of their kinds; the words and the table lie where the program lays them. -/
import Derived.Test.YtheddnjhkcpmnaaGreatDoorRxW
import Derived.Test.YtheddnjhkcpmnaaGreatDoorRxS4
import Derived.Deep.RegionWith
import Derived.Deep.Cut
import Derived.Deep.CutRange
set_option linter.unusedSimpArgs false
set_option linter.unusedVariables false
set_option maxRecDepth 100000
namespace Go.Proofs.YtheddnjhkcpmnaaGreatDoor
open Go.RowKit Go.Lib

/-- a round of readExpr: the tokens that are read, and the one at hand -/
structure RI (w1 : World) (g : Nat) (o : Value) (acc : List P2) (op n : Int) (W : World) : Prop where
  hb : Below w1.heap.size w1 W
  own : W.ownsRow w1.heap.size 40 2 o acc.length (pcells acc)
  k : Bk W g 40 #[.int .i64 op, .int .i64 n]
  ge : w1.heap.size ≤ g
  far : ∀ k, o.ownBlock = some k → k < g
section
variable {w1 : World} {g : Nat} {o : Value} {acc : List P2} {op n : Int} {W W1 : World}
theorem RI.start (hb : Below w1.heap.size w1 W) (ho : W.ownsRow w1.heap.size 40 2 o acc.length (pcells acc)) (op n : Int) : RI w1 W.heap.size o acc op n (W.alloc (.cells #[.int .i64 op, .int .i64 n] 40)) :=
  ⟨hb.alloc hb.size _, ho.alloc _, Bk.new _ _ _, hb.size, fun k hk => (ho.lt k hk).2⟩
theorem RI.below (h : RI w1 g o acc op n W) (hb : Below W.heap.size W W1) : RI w1 g o acc op n W1 := ⟨h.hb.trans (hb.mono h.hb.size), own_keep h.own hb, h.k.below hb, h.ge, h.far⟩
theorem RI.set0 (h : RI w1 g o acc op n W) (x : Int) : RI w1 g o acc x n (W.setCell ⟨g, 0, none⟩ (.int .i64 x)) := ⟨h.hb.setCell (p := ⟨g, 0, none⟩) h.ge _, own_far h.own _ (fun k hk => Nat.ne_of_lt (h.far k hk)), h.k.set 0 _, h.ge, h.far⟩
theorem RI.set1 (h : RI w1 g o acc op n W) (x : Int) : RI w1 g o acc op x (W.setCell ⟨g, 1, none⟩ (.int .i64 x)) := ⟨h.hb.setCell (p := ⟨g, 1, none⟩) h.ge _, own_far h.own _ (fun k hk => Nat.ne_of_lt (h.far k hk)), h.k.set 1 _, h.ge, h.far⟩
theorem RI.drew (h : RI w1 g o acc op n W) : RI w1 g o acc op n W.drew := h.below (Below.refl _ _).drew
end
def NumR (R : Option P2) (op : Int) (rest : ByteArray) : Prop := ∃ lo hi, R = rng op lo hi (atoB rest.data.toList) ∧ ∀ v, tokOk 100 100 ⟨op, v⟩ = decide (lo ≤ v ∧ v ≤ hi)
theorem numR_v {c : UInt8} {r : List UInt8} {rest : ByteArray} (hr : rest.data.toList = r) (h : c = 118) : NumR (numTok (c :: r)) 2 rest :=
  ⟨0, 99, by rw [hr]; exact (if_pos h).trans (impl_num (by decide) (by decide)), fun v => rfl⟩
theorem numR_f {c : UInt8} {r : List UInt8} {rest : ByteArray} (hr : rest.data.toList = r) (h1 : ¬ c = 118) (h : c = 102) : NumR (numTok (c :: r)) 11 rest :=
  ⟨0, 99, by rw [hr]; exact (if_neg h1).trans ((if_pos h).trans (impl_num (by decide) (by decide))), fun v => rfl⟩
theorem numR_i {c : UInt8} {r : List UInt8} {rest : ByteArray} (hr : rest.data.toList = c :: r) (h1 : ¬ c = 118) (h2 : ¬ c = 102) : NumR (numTok (c :: r)) 1 rest :=
  ⟨-2147483648, 2147483647, by rw [hr]; exact (if_neg h1).trans ((if_neg h2).trans (impl_num (by decide) (by decide))), fun v => rfl⟩
theorem numR_0 {rest : ByteArray} (hr : rest.data.toList = []) : NumR (numTok []) 1 rest :=
  ⟨-2147483648, 2147483647, by rw [hr]; rfl, fun v => rfl⟩
theorem pre_cases (X : ByteArray) : (X.data.toList = [] ∧ hasPrefix X.data.toList [118] = false ∧ hasPrefix X.data.toList [102] = false) ∨ (∃ c r, X.data.toList = c :: r ∧ (X.extract 1 X.size).data.toList = r ∧ 1 ≤ X.size ∧ hasPrefix X.data.toList [118] = decide (c = 118) ∧ hasPrefix X.data.toList [102] = decide (c = 102)) := by
  by_cases h : X.size = 0
  · left
    have : X.data.toList = [] := List.eq_nil_of_length_eq_zero (by rw [ba_len]; exact h)
    rw [this]; exact ⟨rfl, rfl, rfl⟩
  · right
    have hc := ba_cons X (by omega)
    have hp : ∀ (a c : UInt8) (r : List UInt8), hasPrefix (c :: r) [a] = decide (c = a) := fun a c r => by
      simp only [hasPrefix, List.isPrefixOf, Bool.and_true]
      by_cases e : c = a
      · subst e; simp
      · rw [decide_eq_false e]; exact beq_eq_false_iff_ne.2 (fun g => e g.symm)
    refine ⟨X[0], X.data.toList.drop 1, hc, extract_to_end X 1, by omega, ?_, ?_⟩
    · rw [hc, hp]
    · rw [hc, hp]
theorem strconv_ItoaB (n : Int) (h1 : -9223372036854775808 ≤ n) (h2 : n ≤ 9223372036854775807) (w : World) (ht : P10 w) :
    Calls Tryz.prog 49 #[.int .i64 n] w fun e w' => e = .returned (.string ⟨(intT n).toArray⟩) ∧ Below w.heap.size w w' := by
  refine (Tryz.strconv_Itoa n h1 h2 w ht).mono ?_
  rintro e w' ⟨rfl, k, os, rfl⟩
  rw [itoa_intT]
  exact ⟨rfl, below_grown_sl _ _ _ _ (Nat.le_refl _)⟩
set_option maxHeartbeats 6400000 in
theorem impl_readExpr (s : ByteArray) (hs : s.size ≤ 200) (w : World) (hm : MaxL w) (hp : P10 w) (hg : 3 < w.heap.size) (hw : ExWs w) (he : ErrV w) : Calls Tryz.prog 30 #[.string s] w (ReadP s.data.toList w) := by
  have hl : s.data.toList.length = s.size := by simp
  have hR : rdE s.data.toList = if 200 < s.data.toList.length ∨ 12 < (spl s.data.toList).length then none else rdAll [] (spl s.data.toList) := rfl
  have hwl := spl_len s.data.toList
  have hwz : ∀ W ∈ spl s.data.toList, W.length ≤ 200 := fun W hW => by have := spl_sizes hW; omega
  have hSp := strings_SplitW s (by omega) w hm
  generalize spl s.data.toList = W at *
  have hno : rdAll [] W = none → rdE s.data.toList = none := fun h => by rw [hR]; split; rfl; exact h
  have hlong : 12 < W.length → rdE s.data.toList = none := fun h => by rw [hR, if_pos (.inr h)]
  have hyes : ¬ 12 < W.length → rdE s.data.toList = rdAll [] W := fun h => by rw [hR, if_neg]; rintro (g | g); omega; exact h g
  have HSp := hide hSp; have HNo := Lib.hid hno; have HLong := Lib.hid hlong; have HYes := Lib.hid hyes; have HWz := Lib.hid hwz
  have HP := hide hp; have HW := hide hw; have HE := hide he
  clear hR hSp hno hlong hyes hwz hm hp hw he
  have hW201 : W.length ≤ 201 := by omega
  generalize s.data.toList = L at *
  by_cases h12 : 12 < W.length
  · have HR := hide (HLong.out h12)
    have h12I : (12 : Int) < (W.length : Int) := by omega
    go_enter Tryz.func30, Tryz.ntmps30
    go_wp2_with (go_at_call 53; refine (HSp.out).mono ?_; rintro e w1 ⟨rfl, hrd, hb⟩; have Hb1 := hide hb; clear hrd hb)
    go_ret2
    exact ReadP.no HR.out Hb1.out
  have HY := hide (HYes.out h12)
  have h12I : ¬ (12 : Int) < (W.length : Int) := by omega
  clear HLong HYes
  go_enter Tryz.func30, Tryz.ntmps30
  go_wp2_with (go_at_call 53; refine (HSp.out).mono ?_; rintro e w1 ⟨rfl, hrd, hb⟩; have Hw := hide hrd; have Hb1 := hide hb; clear hrd hb)
  go_loopw [5, 19] (fun o i wr => ∃ (k : Nat) (acc : List P2), k ≤ W.length ∧ i = .int .i64 k ∧ acc.length = k ∧ rdAll acc (W.drop k) = rdAll [] W ∧ wr.ownsRow w1.heap.size 40 2 o acc.length (pcells acc) ∧ Below w1.heap.size w1 wr) (fun _ i _ => W.length - (intOf i).toNat)
  case atStart => exact ⟨0, [], by omega, rfl, rfl, rfl, World.ownsRow_nil _ _ _ _, Below.refl _ _⟩
  case round =>
    obtain ⟨k, acc, hk, rfl, hak, hall, hown, hb⟩ := hrel
    by_cases hlt : k < W.length
    · have hwk := HWz.out _ (List.getElem_mem hlt)
      obtain ⟨b, o, hA, hbB, hc⟩ := Hw.out.at_ (j := k) (by simp [scells]; exact hlt)
      cases hA
      have hc2 : w1.cell? ⟨w.heap.size, 0 + k, none⟩ = some (.string ⟨W[k].toArray⟩) := hc.trans (by simp [scells])
      rw [Nat.zero_add] at hc2
      have q0 := (hb.cell (p := ⟨w.heap.size, k, none⟩) hbB).trans hc2
      have hbw : w.heap.size < wr.heap.size := Nat.lt_of_lt_of_le hbB hb.size
      have hal : acc.length ≤ 201 := by omega
      have hrs : ∀ t, rdTok W[k] = some t → rdAll (acc ++ [t]) (W.drop (k + 1)) = rdAll [] W := fun t h => (rdAll_some hlt h).symm.trans hall
      have hrn : rdTok W[k] = none → rdE L = none := fun h => HNo.out (hall.symm.trans (rdAll_none hlt h))
      have hok : ∀ t, rdTok W[k] = some t → tokOk 100 100 t = true := fun t h => rdTok_ok h
      have hrd : rdTok W[k] = if opOf W[k] = 0 then numTok W[k] else some ⟨opOf W[k], 0⟩ := rfl
      have hop := exIx_op ⟨W[k].toArray⟩
      have hXl : (⟨W[k].toArray⟩ : ByteArray).data.toList = W[k] := rfl
      have hXs : (⟨W[k].toArray⟩ : ByteArray).size ≤ 200 := by simpa [ByteArray.size] using hwk
      have hBw := Hb1.out.trans (hb.mono Hb1.out.size)
      have hI := fun W' (hW : Below w.heap.size w W') => slices_IndexW ⟨W[k].toArray⟩ W' (HW.out.below hW)
      generalize rdTok W[k] = R at *
      generalize W[k] = X0 at *
      generalize (⟨X0.toArray⟩ : ByteArray) = X at *
      subst hXl
      have Hrs := Lib.hid hrs; have Hrn := Lib.hid hrn; have Hok := Lib.hid hok; have HI := Lib.hid hI; have HRd := hide hrd
      have Hst := hide (RI.start hb hown (exIx X) 0)
      have hst1 := fun (op : Int) => RI.start hb hown op 0
      have Hst1 := Lib.hid hst1; clear hst1
      have HBw := hide hBw
      clear hrs hrn hok hI hrd hc hc2 hown hb hall hBw
      rcases hop with ⟨h0, hx⟩ | ⟨h3, h10, hop⟩
      · have hN : R = numTok X.data.toList := by rw [HRd.out, if_pos h0]
        have hpre := pre_cases X
        have hnr : (∀ r : ByteArray, r.data.toList = [] → NumR (numTok []) 1 r) := fun r h => numR_0 h
        have hV := fun W => Tryz.strings_HasPrefix X ⟨#[118]⟩ W
        have hF := fun W => Tryz.strings_HasPrefix X ⟨#[102]⟩ W
        rw [show (⟨#[118]⟩ : ByteArray).data.toList = [118] from rfl] at hV
        rw [show (⟨#[102]⟩ : ByteArray).data.toList = [102] from rfl] at hF
        generalize hasPrefix X.data.toList [118] = PV at *
        generalize hasPrefix X.data.toList [102] = PF at *
        have HV := Lib.hid hV; have HF := Lib.hid hF; have HN := hide hN; have Hpre := hide hpre
        clear hV hF hN hpre hnr h0 HRd
        generalize exIx X = I at *
        rcases hx with hx | hx
        · have b1 : decide (I < 3) = true := decide_eq_true hx
          go_upto_if 38 with (first
            | (go_at_call 54; refine (HI.out _ HBw.out).mono ?_; rintro e w2 ⟨rfl, rfl⟩)
            | (go_at_call 55; refine (HV.out _).mono ?_; rintro e w2 ⟨rfl, rfl⟩))
          go_cut [9] from 39 to 46 (fun r wx => ∃ (op : Int) (rest : ByteArray), r = .string rest ∧ rest.size ≤ 200 ∧ NumR R op rest ∧ RI w1 wr.heap.size u5 acc op 0 wx)
          case first =>
            rcases Hpre.out with ⟨h1, h2, h3⟩ | ⟨c, r, hc, hr, hsz, h2, h3⟩
            · subst h2 h3
              go_wp2_with (go_at_call 55; refine (HF.out _).mono ?_; rintro e w2 ⟨rfl, rfl⟩)
              go_meet
              case rel => exact ⟨1, X, rfl, hXs, by rw [HN.out, h1]; exact numR_0 h1, Hst1.out 1⟩
            have hszI : (1 : Int) ≤ (X.size : Int) := by omega
            have hex : (X.extract 1 X.size).size ≤ 200 := by rw [ByteArray.size_extract]; omega
            by_cases c1 : c = 118
            · rw [decide_eq_true c1] at h2
              subst h2
              have HNr := hide (show NumR R 2 (X.extract 1 X.size) by rw [HN.out, hc]; exact numR_v hr c1)
              clear c1 h3 hc hr
              go_wp2_with fail
              go_region_with (fail)
              all_goals
                go_wp2_with fail
                go_meet
                case rel => exact ⟨2, X.extract 1 X.size, rfl, hex, HNr.out, (Hst1.out 2).drew⟩
            · rw [decide_eq_false c1] at h2
              subst h2
              by_cases c2 : c = 102
              · rw [decide_eq_true c2] at h3
                subst h3
                have HNr := hide (show NumR R 11 (X.extract 1 X.size) by rw [HN.out, hc]; exact numR_f hr c1 c2)
                clear c1 c2 hc hr
                go_wp2_with (go_at_call 55; refine (HF.out _).mono ?_; rintro e w2 ⟨rfl, rfl⟩)
                go_region_with (fail)
                all_goals
                  go_wp2_with fail
                  go_meet
                  case rel => exact ⟨11, X.extract 1 X.size, rfl, hex, HNr.out, (Hst1.out 11).drew⟩
              · rw [decide_eq_false c2] at h3
                subst h3
                have HNr := hide (show NumR R 1 X by rw [HN.out, hc]; exact numR_i hc c1 c2)
                clear c1 c2 hc hr
                go_wp2_with (go_at_call 55; refine (HF.out _).mono ?_; rintro e w2 ⟨rfl, rfl⟩)
                go_meet
                case rel => exact ⟨1, X, rfl, hXs, HNr.out, Hst1.out 1⟩
          case rest =>
            obtain ⟨op, rest, rfl, hrs, ⟨lo, hi, hRr, htk⟩, hri⟩ := hcut
            have hbr := Hb1.out.trans (hri.hb.mono Hb1.out.size)
            have Hri := hide hri
            have k0 := hri.k.cell 0; have k1 := hri.k.cell 1; have kl := hri.k.lt; have fz := hri.k.frozen 1
            by_cases hat : ∃ v, atoiAll rest.data.toList = .ok v
            · obtain ⟨v, hv⟩ := hat
              have hvb := atoiAll_bounds hv
              have hA := fun W => strconv_Atoi_okW rest (by omega) v hv W
              have hIt := fun W (hW : Below w.heap.size w W) => strconv_ItoaB v hvb.1 hvb.2 W (HP.out.belowE hW hg)
              have HA := Lib.hid hA; have HIt := Lib.hid hIt
              by_cases he : intT v = rest.data.toList
              · have hto : atoB rest.data.toList = some v := atoB_ok hv he
                rw [hto] at hRr
                have heq : ((⟨(intT v).toArray⟩ : ByteArray).toList == rest.toList) = true := (bytes_beq_iff _ _).2 (ba_ext he)
                have hT := fun W => impl_isTok op v 100 100 (by decide) (by decide) (by decide) (by decide) W
                rw [htk] at hT
                by_cases hlo : lo ≤ v ∧ v ≤ hi
                · rw [decide_eq_true hlo] at hT
                  have hRv : R = some ⟨op, v⟩ := by rw [hRr]; exact if_pos hlo
                  have Hn := hide (Hrs.out _ hRv)
                  have HT := Lib.hid hT
                  clear hA hIt hT hv hvb hto he hRr htk hri hRv hlo
                  generalize (⟨(intT v).toArray⟩ : ByteArray) = T at *
                  go_wp2_with (first
                    | (go_at_call 56; refine (HA.out _).mono ?_; rintro e w3 ⟨rfl, hb3⟩; have Hr3 := hide (Hri.out.below hb3); have Hb3 := hide (hbr.trans (hb3.mono hbr.size)); clear hb3)
                    | (go_at_call 49; refine (HIt.out _ Hb3.out).mono ?_; rintro e w4 ⟨rfl, hb4⟩; have Hr4 := hide (Hr3.out.below hb4); have k0 := Hr4.out.k.cell 0; have k1 := Hr4.out.k.cell 1; have kl : wr.heap.size < w4.heap.size := Hr4.out.k.lt; have fz := Hr4.out.k.frozen 1; have Hb4 := hide (Hb3.out.trans (hb4.mono Hb3.out.size)); clear hb4)
                    | (go_at_call 25; refine (HT.out _).mono ?_; rintro e w5 ⟨rfl, hb5⟩; have Hr5 := hide ((Hr4.out.set1 v).below hb5); have k0 := Hr5.out.k.cell 0; have k1 := Hr5.out.k.cell 1; have kl : wr.heap.size < w5.heap.size := Hr5.out.k.lt; clear hb5)
                    | (at_builtin; refine wpList_push rfl _ _ _ rfl okTok rfl Hr5.out.own _ rfl rfl (by simp [Value.oneCell']) (by unfold maxLen; omega) (by omega) Hr5.out.hb.size ?_; intro v1 w6 hown1 hg1))
                  go_roundw
                  case rel => exact ⟨k + 1, acc ++ [⟨op, v⟩], by omega, by go_num, by rw [List.length_append, hak]; rfl, Hn.out, by rw [pcells_snocR, List.length_append]; exact hown1, belowPush Hr5.out.hb Hr5.out.own Hr5.out.hb.size hg1⟩
                  case measure => simp [intOf]; omega
                · rw [decide_eq_false hlo] at hT
                  have HR := hide (Hrn.out (by rw [hRr]; exact if_neg hlo))
                  have HT := Lib.hid hT
                  clear hA hIt hT hv hvb hto he hRr htk hri hlo
                  generalize (⟨(intT v).toArray⟩ : ByteArray) = T at *
                  go_wp2_with (first
                    | (go_at_call 56; refine (HA.out _).mono ?_; rintro e w3 ⟨rfl, hb3⟩; have Hr3 := hide (Hri.out.below hb3); have Hb3 := hide (hbr.trans (hb3.mono hbr.size)); clear hb3)
                    | (go_at_call 49; refine (HIt.out _ Hb3.out).mono ?_; rintro e w4 ⟨rfl, hb4⟩; have Hr4 := hide (Hr3.out.below hb4); have k0 := Hr4.out.k.cell 0; have k1 := Hr4.out.k.cell 1; have kl : wr.heap.size < w4.heap.size := Hr4.out.k.lt; have fz := Hr4.out.k.frozen 1; have Hb4 := hide (Hb3.out.trans (hb4.mono Hb3.out.size)); clear hb4)
                    | (go_at_call 25; refine (HT.out _).mono ?_; rintro e w5 ⟨rfl, hb5⟩; have Hr5 := hide ((Hr4.out.set1 v).below hb5); have k0 := Hr5.out.k.cell 0; have k1 := Hr5.out.k.cell 1; have kl : wr.heap.size < w5.heap.size := Hr5.out.k.lt; clear hb5))
                  go_ret2
                  exact ReadP.no HR.out (Hb1.out.trans (Hr5.out.hb.mono Hb1.out.size))
              · have HR := hide (Hrn.out (by rw [hRr, atoB_other hv he]; rfl))
                have heq : ((⟨(intT v).toArray⟩ : ByteArray).toList == rest.toList) = false := (bytes_beq_false_iff _ _).2 (fun g => he (by rw [← g]))
                clear hA hIt hv hvb he hRr htk hri
                generalize (⟨(intT v).toArray⟩ : ByteArray) = T at *
                go_wp2_with (first
                  | (go_at_call 56; refine (HA.out _).mono ?_; rintro e w3 ⟨rfl, hb3⟩; have Hr3 := hide (Hri.out.below hb3); have Hb3 := hide (hbr.trans (hb3.mono hbr.size)); clear hb3)
                  | (go_at_call 49; refine (HIt.out _ Hb3.out).mono ?_; rintro e w4 ⟨rfl, hb4⟩; have Hr4 := hide (Hr3.out.below hb4); have k0 := Hr4.out.k.cell 0; have k1 := Hr4.out.k.cell 1; have kl : wr.heap.size < w4.heap.size := Hr4.out.k.lt; have fz := Hr4.out.k.frozen 1; have Hb4 := hide (Hb3.out.trans (hb4.mono Hb3.out.size)); clear hb4))
                go_ret2
                exact ReadP.no HR.out Hb4.out
            · have hne : ∀ v, atoiAll rest.data.toList ≠ .ok v := fun v h => hat ⟨v, h⟩
              have hno : atoB rest.data.toList = none := by
                cases ha : atoiAll rest.data.toList with
                | ok v => exact absurd ha (hne v)
                | «syntax» => exact atoB_syntax ha
                | range => exact atoB_range ha
              have HR := hide (Hrn.out (by rw [hRr, hno]; rfl))
              have hA := strconv_Atoi_errW rest (by omega) hne _ (HE.out.below hbr)
              have HA := hide hA
              clear hA hne hno hat hRr htk hri
              go_wp2_with (go_at_call 56; refine (HA.out).mono ?_; rintro e w3 ⟨n, N, rfl, hb3⟩; have Hb3 := hide (hbr.trans (hb3.mono hbr.size)); clear hb3)
              go_ret2
              exact ReadP.no HR.out Hb3.out
        · have b1 : decide (I < 3) = false := decide_eq_false (by omega)
          have b2 : decide (10 < I) = true := decide_eq_true hx
          go_upto_if 38 with (first
            | (go_at_call 54; refine (HI.out _ HBw.out).mono ?_; rintro e w2 ⟨rfl, rfl⟩)
            | (go_at_call 55; refine (HV.out _).mono ?_; rintro e w2 ⟨rfl, rfl⟩))
          go_cut [9] from 39 to 46 (fun r wx => ∃ (op : Int) (rest : ByteArray), r = .string rest ∧ rest.size ≤ 200 ∧ NumR R op rest ∧ RI w1 wr.heap.size u5 acc op 0 wx)
          case first =>
            rcases Hpre.out with ⟨h1, h2, h3⟩ | ⟨c, r, hc, hr, hsz, h2, h3⟩
            · subst h2 h3
              go_wp2_with (go_at_call 55; refine (HF.out _).mono ?_; rintro e w2 ⟨rfl, rfl⟩)
              go_meet
              case rel => exact ⟨1, X, rfl, hXs, by rw [HN.out, h1]; exact numR_0 h1, Hst1.out 1⟩
            have hszI : (1 : Int) ≤ (X.size : Int) := by omega
            have hex : (X.extract 1 X.size).size ≤ 200 := by rw [ByteArray.size_extract]; omega
            by_cases c1 : c = 118
            · rw [decide_eq_true c1] at h2
              subst h2
              have HNr := hide (show NumR R 2 (X.extract 1 X.size) by rw [HN.out, hc]; exact numR_v hr c1)
              clear c1 h3 hc hr
              go_wp2_with fail
              go_region_with (fail)
              all_goals
                go_wp2_with fail
                go_meet
                case rel => exact ⟨2, X.extract 1 X.size, rfl, hex, HNr.out, (Hst1.out 2).drew⟩
            · rw [decide_eq_false c1] at h2
              subst h2
              by_cases c2 : c = 102
              · rw [decide_eq_true c2] at h3
                subst h3
                have HNr := hide (show NumR R 11 (X.extract 1 X.size) by rw [HN.out, hc]; exact numR_f hr c1 c2)
                clear c1 c2 hc hr
                go_wp2_with (go_at_call 55; refine (HF.out _).mono ?_; rintro e w2 ⟨rfl, rfl⟩)
                go_region_with (fail)
                all_goals
                  go_wp2_with fail
                  go_meet
                  case rel => exact ⟨11, X.extract 1 X.size, rfl, hex, HNr.out, (Hst1.out 11).drew⟩
              · rw [decide_eq_false c2] at h3
                subst h3
                have HNr := hide (show NumR R 1 X by rw [HN.out, hc]; exact numR_i hc c1 c2)
                clear c1 c2 hc hr
                go_wp2_with (go_at_call 55; refine (HF.out _).mono ?_; rintro e w2 ⟨rfl, rfl⟩)
                go_meet
                case rel => exact ⟨1, X, rfl, hXs, HNr.out, Hst1.out 1⟩
          case rest =>
            obtain ⟨op, rest, rfl, hrs, ⟨lo, hi, hRr, htk⟩, hri⟩ := hcut
            have hbr := Hb1.out.trans (hri.hb.mono Hb1.out.size)
            have Hri := hide hri
            have k0 := hri.k.cell 0; have k1 := hri.k.cell 1; have kl := hri.k.lt; have fz := hri.k.frozen 1
            by_cases hat : ∃ v, atoiAll rest.data.toList = .ok v
            · obtain ⟨v, hv⟩ := hat
              have hvb := atoiAll_bounds hv
              have hA := fun W => strconv_Atoi_okW rest (by omega) v hv W
              have hIt := fun W (hW : Below w.heap.size w W) => strconv_ItoaB v hvb.1 hvb.2 W (HP.out.belowE hW hg)
              have HA := Lib.hid hA; have HIt := Lib.hid hIt
              by_cases he : intT v = rest.data.toList
              · have hto : atoB rest.data.toList = some v := atoB_ok hv he
                rw [hto] at hRr
                have heq : ((⟨(intT v).toArray⟩ : ByteArray).toList == rest.toList) = true := (bytes_beq_iff _ _).2 (ba_ext he)
                have hT := fun W => impl_isTok op v 100 100 (by decide) (by decide) (by decide) (by decide) W
                rw [htk] at hT
                by_cases hlo : lo ≤ v ∧ v ≤ hi
                · rw [decide_eq_true hlo] at hT
                  have hRv : R = some ⟨op, v⟩ := by rw [hRr]; exact if_pos hlo
                  have Hn := hide (Hrs.out _ hRv)
                  have HT := Lib.hid hT
                  clear hA hIt hT hv hvb hto he hRr htk hri hRv hlo
                  generalize (⟨(intT v).toArray⟩ : ByteArray) = T at *
                  go_wp2_with (first
                    | (go_at_call 56; refine (HA.out _).mono ?_; rintro e w3 ⟨rfl, hb3⟩; have Hr3 := hide (Hri.out.below hb3); have Hb3 := hide (hbr.trans (hb3.mono hbr.size)); clear hb3)
                    | (go_at_call 49; refine (HIt.out _ Hb3.out).mono ?_; rintro e w4 ⟨rfl, hb4⟩; have Hr4 := hide (Hr3.out.below hb4); have k0 := Hr4.out.k.cell 0; have k1 := Hr4.out.k.cell 1; have kl : wr.heap.size < w4.heap.size := Hr4.out.k.lt; have fz := Hr4.out.k.frozen 1; have Hb4 := hide (Hb3.out.trans (hb4.mono Hb3.out.size)); clear hb4)
                    | (go_at_call 25; refine (HT.out _).mono ?_; rintro e w5 ⟨rfl, hb5⟩; have Hr5 := hide ((Hr4.out.set1 v).below hb5); have k0 := Hr5.out.k.cell 0; have k1 := Hr5.out.k.cell 1; have kl : wr.heap.size < w5.heap.size := Hr5.out.k.lt; clear hb5)
                    | (at_builtin; refine wpList_push rfl _ _ _ rfl okTok rfl Hr5.out.own _ rfl rfl (by simp [Value.oneCell']) (by unfold maxLen; omega) (by omega) Hr5.out.hb.size ?_; intro v1 w6 hown1 hg1))
                  go_roundw
                  case rel => exact ⟨k + 1, acc ++ [⟨op, v⟩], by omega, by go_num, by rw [List.length_append, hak]; rfl, Hn.out, by rw [pcells_snocR, List.length_append]; exact hown1, belowPush Hr5.out.hb Hr5.out.own Hr5.out.hb.size hg1⟩
                  case measure => simp [intOf]; omega
                · rw [decide_eq_false hlo] at hT
                  have HR := hide (Hrn.out (by rw [hRr]; exact if_neg hlo))
                  have HT := Lib.hid hT
                  clear hA hIt hT hv hvb hto he hRr htk hri hlo
                  generalize (⟨(intT v).toArray⟩ : ByteArray) = T at *
                  go_wp2_with (first
                    | (go_at_call 56; refine (HA.out _).mono ?_; rintro e w3 ⟨rfl, hb3⟩; have Hr3 := hide (Hri.out.below hb3); have Hb3 := hide (hbr.trans (hb3.mono hbr.size)); clear hb3)
                    | (go_at_call 49; refine (HIt.out _ Hb3.out).mono ?_; rintro e w4 ⟨rfl, hb4⟩; have Hr4 := hide (Hr3.out.below hb4); have k0 := Hr4.out.k.cell 0; have k1 := Hr4.out.k.cell 1; have kl : wr.heap.size < w4.heap.size := Hr4.out.k.lt; have fz := Hr4.out.k.frozen 1; have Hb4 := hide (Hb3.out.trans (hb4.mono Hb3.out.size)); clear hb4)
                    | (go_at_call 25; refine (HT.out _).mono ?_; rintro e w5 ⟨rfl, hb5⟩; have Hr5 := hide ((Hr4.out.set1 v).below hb5); have k0 := Hr5.out.k.cell 0; have k1 := Hr5.out.k.cell 1; have kl : wr.heap.size < w5.heap.size := Hr5.out.k.lt; clear hb5))
                  go_ret2
                  exact ReadP.no HR.out (Hb1.out.trans (Hr5.out.hb.mono Hb1.out.size))
              · have HR := hide (Hrn.out (by rw [hRr, atoB_other hv he]; rfl))
                have heq : ((⟨(intT v).toArray⟩ : ByteArray).toList == rest.toList) = false := (bytes_beq_false_iff _ _).2 (fun g => he (by rw [← g]))
                clear hA hIt hv hvb he hRr htk hri
                generalize (⟨(intT v).toArray⟩ : ByteArray) = T at *
                go_wp2_with (first
                  | (go_at_call 56; refine (HA.out _).mono ?_; rintro e w3 ⟨rfl, hb3⟩; have Hr3 := hide (Hri.out.below hb3); have Hb3 := hide (hbr.trans (hb3.mono hbr.size)); clear hb3)
                  | (go_at_call 49; refine (HIt.out _ Hb3.out).mono ?_; rintro e w4 ⟨rfl, hb4⟩; have Hr4 := hide (Hr3.out.below hb4); have k0 := Hr4.out.k.cell 0; have k1 := Hr4.out.k.cell 1; have kl : wr.heap.size < w4.heap.size := Hr4.out.k.lt; have fz := Hr4.out.k.frozen 1; have Hb4 := hide (Hb3.out.trans (hb4.mono Hb3.out.size)); clear hb4))
                go_ret2
                exact ReadP.no HR.out Hb4.out
            · have hne : ∀ v, atoiAll rest.data.toList ≠ .ok v := fun v h => hat ⟨v, h⟩
              have hno : atoB rest.data.toList = none := by
                cases ha : atoiAll rest.data.toList with
                | ok v => exact absurd ha (hne v)
                | «syntax» => exact atoB_syntax ha
                | range => exact atoB_range ha
              have HR := hide (Hrn.out (by rw [hRr, hno]; rfl))
              have hA := strconv_Atoi_errW rest (by omega) hne _ (HE.out.below hbr)
              have HA := hide hA
              clear hA hne hno hat hRr htk hri
              go_wp2_with (go_at_call 56; refine (HA.out).mono ?_; rintro e w3 ⟨n, N, rfl, hb3⟩; have Hb3 := hide (hbr.trans (hb3.mono hbr.size)); clear hb3)
              go_ret2
              exact ReadP.no HR.out Hb3.out
      · have hR : R = some ⟨exIx X, 0⟩ := by rw [HRd.out, if_neg (by omega), hop]
        have htk := Hok.out _ hR
        have Hn := hide (Hrs.out _ hR)
        have hT := fun W => impl_isTok (exIx X) 0 100 100 (by decide) (by decide) (by decide) (by decide) W
        rw [htk] at hT
        have HT := Lib.hid hT
        have h3' : decide (exIx X < 3) = false := decide_eq_false (by omega)
        have h10' : decide (10 < exIx X) = false := decide_eq_false (by omega)
        clear hR htk hT hop Hrs Hrn Hok
        generalize exIx X = I at *
        go_wp2_with (first
          | (go_at_call 54; refine (HI.out _ HBw.out).mono ?_; rintro e w2 ⟨rfl, rfl⟩)
          | (go_at_call 25; refine (HT.out _).mono ?_; rintro e w3 ⟨rfl, hb3⟩; have Hs3 := hide (Hst.out.below hb3); have k0 := Hs3.out.k.cell 0; have k1 := Hs3.out.k.cell 1; have kl := Hs3.out.k.lt; have Ho3 := hide (Hs3.out.own.alloc (.cells #[.int .i64 I, .int .i64 0] 40)); clear hb3)
          | (at_builtin; refine wpList_push rfl _ _ _ rfl okTok rfl Hs3.out.own _ rfl rfl (by simp [Value.oneCell']) (by unfold maxLen; omega) (by omega) Hs3.out.hb.size ?_; intro v1 w4 hown1 hg1))
        go_roundw
        case rel => exact ⟨k + 1, acc ++ [⟨I, 0⟩], by omega, by go_num, by rw [List.length_append, hak]; rfl, Hn.out, by rw [pcells_snocR, List.length_append]; exact hown1, belowPush Hs3.out.hb Hs3.out.own Hs3.out.hb.size hg1⟩
        case measure => simp [intOf]; omega
    · obtain rfl : k = W.length := by omega
      rw [List.drop_length] at hall
      have HR := hide (HY.out.trans hall.symm)
      have Ho := hide hown; have Hb := hide hb
      clear hall hown hb hak
      go_wp2
      go_ret2
      exact ReadP.yes HR.out (Hb1.out.trans (Hb.out.mono Hb1.out.size)) (own_base Ho.out Hb1.out.size)
theorem impl_ReadExpr (s : ByteArray) (hs : s.size ≤ 9223372036854775807) (w : World) (hm : MaxL w) (hp : P10 w) (hg : 3 < w.heap.size) (hw : ExWs w) (he : ErrV w) : Calls Tryz.prog 8 #[.string s] w (ReadP s.data.toList w) := by
  have hl : s.data.toList.length = s.size := by simp
  by_cases h200 : 200 < s.size
  · have HR := hide (if_pos (.inl (by omega)) : rdE s.data.toList = none)
    have h200I : (200 : Int) < s.size := by omega
    clear hl hm hp hw he
    go_enter Tryz.func8, Tryz.ntmps8
    go_wp2
    go_ret2
    exact ReadP.no HR.out (Below.refl _ _)
  · have h200I : ¬ (200 : Int) < s.size := by omega
    have HC := hide (impl_readExpr s (by omega) w hm hp hg hw he)
    clear hl hm hp hw he
    go_enter Tryz.func8, Tryz.ntmps8
    go_wp2_with (go_at_call 30; refine (HC.out).mono ?_; rintro e w1 ⟨v', rfl, ho, hb⟩; have Ho := hide ho; have Hb := hide hb; clear ho hb)
    go_ret2
    exact ⟨_, rfl, Ho.out, Hb.out⟩
end Go.Proofs.YtheddnjhkcpmnaaGreatDoor
