
/- sitesOf, orderOf and the reference's: what the Go text returns. No condition. -/
import Derived.Test.YtheddnjhkcpmnaaSl6
import Derived.Test.YtheddnjhkcpmnaaPgF
import Derived.Test.YtheddnjhkcpmnaaEx
import Derived.Test.YtheddnjhkcpmnaaIn
import Derived.Laws.AppendOwnNone
import Derived.Deep.RegionHeld3
import Derived.Deep.RegionWith
set_option linter.unusedSimpArgs false
set_option linter.unusedVariables false
set_option maxRecDepth 100000
namespace Go.Proofs.Ytheddnjhkcpmnaa
open Go.RowKit

/-- the cells of a statement that is read, spelled out -/
theorem RStmt_lit {w : World} {hi c i : Nat} {A : Option Addr} {l : List StmtM} (h : RL RStmt 5 w 0 hi (.slice A l.length c) l) (hl : i < l.length) :
    ∃ (b o : Nat) (A2 : Option Addr) (c2 : Nat) (A3 : Option Addr) (c3 : Nat) (A4 : Option Addr) (c4 : Nat), A = some ⟨b, o, none⟩ ∧ b < hi ∧ w.cell? ⟨b, o + i * 5, none⟩ = some (.int .i64 l[i].qKind) ∧ w.cell? ⟨b, o + i * 5 + 1, none⟩ = some (.int .i64 l[i].qN) ∧
      w.cell? ⟨b, o + i * 5 + 2, none⟩ = some (.slice A2 l[i].qEx.length c2) ∧ w.cell? ⟨b, o + i * 5 + 3, none⟩ = some (.slice A3 l[i].qThen.length c3) ∧ w.cell? ⟨b, o + i * 5 + 4, none⟩ = some (.slice A4 l[i].qElse.length c4) ∧
      Rg w 0 hi (.slice A2 l[i].qEx.length c2) l[i].qEx.length (pcells l[i].qEx) ∧ Rg w 0 hi (.slice A3 l[i].qThen.length c3) l[i].qThen.length (icells .i64 l[i].qThen) ∧ Rg w 0 hi (.slice A4 l[i].qElse.length c4) l[i].qElse.length (icells .i64 l[i].qElse) := by
  obtain ⟨b, o, v2, v3, v4, hA, hb, e0, e1, e2, e3, e4, hx⟩ := RStmt_at h hl
  obtain ⟨z2, z3, z4, ez, r2, r3, r4⟩ := hx
  injection ez with _ ez
  injection ez with _ ez
  injection ez with ez1 ez
  injection ez with ez2 ez
  injection ez with ez3 _
  subst ez1 ez2 ez3
  obtain ⟨A2, c2, rfl⟩ := r2.form
  obtain ⟨A3, c3, rfl⟩ := r3.form
  obtain ⟨A4, c4, rfl⟩ := r4.form
  exact ⟨b, o, A2, c2, A3, c3, A4, c4, hA, hb, e0, e1, e2, e3, e4, r2, r3, r4⟩
theorem RFunc_lit {w : World} {hi c i : Nat} {A : Option Addr} {l : List FuncM} (h : RL RFunc 4 w 0 hi (.slice A l.length c) l) (hl : i < l.length) :
    ∃ (b o : Nat) (A2 : Option Addr) (c2 : Nat) (A3 : Option Addr) (c3 : Nat), A = some ⟨b, o, none⟩ ∧ b < hi ∧ w.cell? ⟨b, o + i * 4, none⟩ = some (.int .i64 l[i].qParams) ∧ w.cell? ⟨b, o + i * 4 + 1, none⟩ = some (.int .i64 l[i].qVars) ∧
      w.cell? ⟨b, o + i * 4 + 2, none⟩ = some (.slice A2 l[i].qBody.length c2) ∧ w.cell? ⟨b, o + i * 4 + 3, none⟩ = some (.slice A3 l[i].qStmts.length c3) ∧
      RFunc w 0 hi [.int .i64 l[i].qParams, .int .i64 l[i].qVars, .slice A2 l[i].qBody.length c2, .slice A3 l[i].qStmts.length c3] l[i] := by
  obtain ⟨b, o, v2, v3, hA, hb, e0, e1, e2, e3, hx⟩ := RFunc_at h hl
  have hx' := hx
  obtain ⟨z2, z3, ez, r2, r3⟩ := hx
  injection ez with _ ez
  injection ez with _ ez
  injection ez with ez1 ez
  injection ez with ez2 _
  subst ez1 ez2
  obtain ⟨A2, c2, rfl⟩ := r2.form
  obtain ⟨A3, c3, rfl⟩ := r3.form
  exact ⟨b, o, A2, c2, A3, c3, hA, hb, e0, e1, e2, e3, hx'⟩

set_option maxHeartbeats 1600000 in
theorem impl_sitesOf (cs : List Value) (m : FuncM) (w : World) (hr : RFunc w 0 w.heap.size cs m) (hl : m.qStmts.length ≤ 16) :
    Calls Try.prog 93 #[.agg cs.toArray] w fun e w' => ∃ v, e = .returned v ∧ w'.ownsRow w.heap.size 3 1 v (sitesF 0 m.qStmts).length (icells .i64 (sitesF 0 m.qStmts)) ∧ Below w.heap.size w w' := by
  obtain ⟨v2, v3, rfl, h2, h3⟩ := hr
  obtain ⟨m0, m1, m2, l⟩ := m
  dsimp only at *
  obtain ⟨A, c, rfl⟩ := h3.form
  obtain ⟨A2, c2, rfl⟩ := h2.form
  have hb := (Below.refl w.heap.size w).alloc (Nat.le_refl _) (.cells #[.int .i64 m0, .int .i64 m1, .slice A2 m2.length c2, .slice A l.length c] 59)
  have H3 := hide h3; have Hb0 := hide hb; clear h2 h3 hb
  go_enter Try.func93, Try.ntmps93
  go_wp2
  go_loopw [3, 9] (fun sv i wr => ∃ (k : Nat) (acc : List Int), k ≤ l.length ∧ i = .int .i64 k ∧ acc.length ≤ k ∧ acc ++ sitesF k (l.drop k) = sitesF 0 l ∧ wr.ownsRow w.heap.size 3 1 sv acc.length (icells .i64 acc) ∧ Below w.heap.size w wr) (fun _ i _ => l.length - (intOf i).toNat)
  case atStart => exact ⟨0, [], by omega, rfl, by simp, rfl, World.ownsRow_nil _ _ _ _, Hb0.out⟩
  case round =>
    obtain ⟨k, acc, hk, rfl, hal, hacc, hown, hb⟩ := hrel
    by_cases hlt : k < l.length
    · obtain ⟨b, o, A5, c5, A6, c6, A7, c7, rfl, hbB, e0, e1, e2, e3, e4, x2, x3, x4⟩ := RStmt_lit (H3.out.here RStmt_stable hb) hlt
      have hy := fun h => (congrArg (acc ++ ·) (sitesF_yes hlt h)).symm.trans hacc
      have hn := fun h => (congrArg (acc ++ ·) (sitesF_no hlt h)).symm.trans hacc
      generalize l[k] = s at *
      have Hown := hide hown; have Hb := hide hb; have hbs := hb.size; clear x2 x3 x4 hacc hown hb
      by_cases h3 : s.qKind = 3
      · have Hy := hide (hy h3); clear hy hn
        rw [h3] at e0
        have Hal := hide (Hown.out.alloc (.cells #[.int .i64 3, .int .i64 s.qN, .slice A5 s.qEx.length c5, .slice A6 s.qThen.length c6, .slice A7 s.qElse.length c7] 103))
        have Hab := hide (Hb.out.alloc hbs (.cells #[.int .i64 3, .int .i64 s.qN, .slice A5 s.qEx.length c5, .slice A6 s.qThen.length c6, .slice A7 s.qElse.length c7] 103))
        clear h3
        go_wp2_with (at_builtin; refine wpList_push' rfl _ _ _ rfl okI64 rfl Hal.out _ rfl (by rw [World.size_alloc]) rfl (by simp [Value.oneCell']) (by unfold maxLen; omega) (by omega) Hab.out.size ?_; intro v1 w1 hown1 hg1)
        go_roundw
        case rel => exact ⟨k + 1, acc ++ [(k : Int)], by omega, by go_num, by simp; omega, by rw [← Hy.out]; simp, by rw [List.length_append, icells_append]; exact hown1, belowPush Hab.out Hal.out Hab.out.size hg1⟩
        case measure => simp [intOf]; omega
      · have Hn := hide (hn h3); clear hy hn
        have b3 : (s.qKind == 3) = false := by rw [beq_eq_false_iff_ne]; exact h3
        clear h3
        go_wp2
        go_roundw
        case rel => exact ⟨k + 1, acc, by omega, by go_num, by omega, Hn.out, own_keep Hown.out ((Below.refl _ _).alloc (Nat.le_refl _) _), Hb.out.alloc hbs _⟩
        case measure => simp [intOf]; omega
    · obtain rfl : k = l.length := by omega
      rw [List.drop_length] at hacc
      have e : acc = sitesF 0 l := by rw [← hacc]; simp [sitesF]
      subst e
      have Hown := hide hown; have Hb := hide hb; clear hown hb hacc
      go_wp2
      go_ret
      exact ⟨_, rfl, Hown.out, Hb.out⟩

/-- the order with one step more, from place k of the block -/
theorem ord_drop {f : Kids} {d k : Nat} {b : List Int} (hk : k < b.length) : ordN f (d + 1) (natL (b.drop k)) = b[k].toNat :: (ordN f d (kid f b[k].toNat).1 ++ ordN f d (kid f b[k].toNat).2) ++ ordN f (d + 1) (natL (b.drop (k + 1))) := by
  rw [List.drop_eq_getElem_cons hk]
  show ordN f (d + 1) (b[k].toNat :: natL (b.drop (k + 1))) = _
  rw [ord_cons]
theorem intL_append (a b : List Nat) : intL (a ++ b) = intL a ++ intL b := by simp [intL]

set_option maxHeartbeats 3200000 in
theorem impl_orderOf (m0 m1 : Int) (m2 : List Int) (l : List StmtM) (hlat : latB l.length 0 l = true) (hl16 : l.length ≤ 16) : ∀ (d : Nat) (b acc : List Int) (bv ov : Value) (w : World) (base : Nat) (cs : List Value), RFunc w 0 base cs ⟨m0, m1, m2, l⟩ → base ≤ w.heap.size → Rd w base bv b.length (icells .i64 b) →
    w.ownsRow base 3 1 ov acc.length (icells .i64 acc) → (∀ x ∈ b, 0 ≤ x ∧ x < l.length ∧ l.length ≤ x + d) → acc.length + (ordN (kidsOf l) d (natL b)).length ≤ 2000000 →
    Calls Try.prog 92 #[.agg cs.toArray, bv, ov] w fun e w' => ∃ v', e = .returned v' ∧ w'.ownsRow base 3 1 v' (acc ++ intL (ordN (kidsOf l) d (natL b))).length (icells .i64 (acc ++ intL (ordN (kidsOf l) d (natL b)))) ∧ Gro w w' ov v' := by
  intro d
  induction d with
  | zero =>
    intro b acc bv ov w base cs hr hbase hrd hown hb hlen
    have hbn : b = [] := by
      cases b with
      | nil => rfl
      | cons a b => have := hb a (by simp); omega
    subst hbn
    obtain ⟨v2, v3, rfl, h2, h3⟩ := hr
    obtain ⟨A, c, rfl, _, _, _⟩ := hrd
    dsimp only at *
    have hown2 := hown.alloc (.cells #[.int .i64 m0, .int .i64 m1, v2, v3] 59)
    have hg2 := Gro.below (w := w) ov ((Below.refl _ _).alloc (Nat.le_refl _) (.cells #[.int .i64 m0, .int .i64 m1, v2, v3] 59))
    rw [show acc ++ intL (ordN (kidsOf l) 0 (natL [])) = acc by simp [ordN, intL]]
    have Hown := hide hown2; have Hg := hide hg2; clear hown hown2 hg2 h2 h3 hlat hlen hb
    go_enter Try.func92, Try.ntmps92
    go_wp2
    go_rounds 1
    go_ret
    exact ⟨_, rfl, Hown.out, Hg.out⟩
  | succ d ih =>
    intro b acc bv ov w base cs hr hbase hrd hown hb hlen
    have hr0 := hr
    obtain ⟨v2, v3, rfl, h2, h3⟩ := hr
    obtain ⟨A, c, rfl, hn1, hn2, hcell⟩ := id hrd
    obtain ⟨A3, c3, rfl⟩ := h3.form
    obtain ⟨A2, c2, rfl⟩ := h2.form
    dsimp only at *
    have hbl := hrd.long
    have hown2 := hown.alloc (.cells #[.int .i64 m0, .int .i64 m1, .slice A2 m2.length c2, .slice A3 l.length c3] 59)
    have hg2 := Gro.below (w := w) ov ((Below.refl _ _).alloc (Nat.le_refl _) (.cells #[.int .i64 m0, .int .i64 m1, .slice A2 m2.length c2, .slice A3 l.length c3] 59))
    have hk2 := Bk.new w 59 #[.int .i64 m0, .int .i64 m1, .slice A2 m2.length c2, .slice A3 l.length c3]
    have hob := hown.lt
    have Hob := hide hob
    have Hr := hide hr0; have Hrd := hide hrd; have Hown0 := hide hown; have Hown := hide hown2; have Hg := hide hg2; have Hk := hide hk2; have H3 := hide h3; have Hb := hide hb; have Hlat := hide hlat
    clear hr0 hrd hown hown2 hg2 hk2 h2 h3 hb hcell hlat hob
    obtain ⟨tot, htot⟩ : ∃ t, t = acc ++ intL (ordN (kidsOf l) (d + 1) (natL b)) := ⟨_, rfl⟩
    have htl : tot.length ≤ 2000000 := by rw [htot, List.length_append, intL_length]; exact hlen
    rw [← htot]
    have Htot := hide htot; clear htot hlen
    go_enter Try.func92, Try.ntmps92
    go_wp2
    go_loopw [2, 11] (fun sv i wr => ∃ (k : Nat) (a : List Int), k ≤ b.length ∧ i = .int .i64 k ∧ a ++ intL (ordN (kidsOf l) (d + 1) (natL (b.drop k))) = tot ∧ wr.ownsRow base 3 1 sv a.length (icells .i64 a) ∧ Gro (w.alloc (.cells #[.int .i64 m0, .int .i64 m1, .slice A2 m2.length c2, .slice A3 l.length c3] 59)) wr ov sv ∧ some w.heap.size ≠ sv.ownBlock ∧ Bk wr w.heap.size 59 #[.int .i64 m0, .int .i64 m1, .slice A2 m2.length c2, .slice A3 l.length c3]) (fun _ i _ => b.length - (intOf i).toNat)
    case atStart => exact ⟨0, acc, by omega, rfl, Htot.out.symm, Hown.out, Gro.refl _ _, fun e => by have := (Hob.out _ e.symm).2; omega, Hk.out⟩
    case round =>
      obtain ⟨k, a, hk, rfl, hacc, hown, hg, hne, hbk⟩ := hrel
      by_cases hlt : k < b.length
      · have hgw := Hg.out.trans hg
        have hbB := hgw.toBelow Hown0.out hbase
        have hsz := hbB.size
        obtain ⟨q1, o1, e1, hq1, s0⟩ := Hrd.out.at_ (j := k) (by rw [icells_length]; exact hlt)
        cases e1
        rw [icells_get _ _ hlt] at s0
        have hs0 := (hbB.cell (p := ⟨q1, o1 + k, none⟩) hq1).trans s0
        have hbk0 := Hb.out b[k] (List.getElem_mem hlt)
        rw [ord_drop hlt] at hacc
        generalize b[k] = x at *
        obtain ⟨y, rfl⟩ := Int.eq_ofNat_of_zero_le hbk0.1
        have hy : y < l.length := by have := hbk0.2.1; omega
        have hy0 : (0 : Int) ≤ (y : Int) := by omega
        have hyI : (y : Int) < (l.length : Int) := by omega
        have hyd : l.length ≤ y + (d + 1) := by have := hbk0.2.2; omega
        rw [Int.toNat_natCast] at hacc
        have hkid := kid_of hy
        rw [hkid] at hacc
        obtain ⟨hl1, hl2⟩ := (latB_all l 0).1 Hlat.out y hy
        rw [inAll_iff] at hl1 hl2
        have hT : ∀ x ∈ l[y].qThen, 0 ≤ x ∧ x < l.length ∧ l.length ≤ x + (d : Nat) := fun x hx => by have := hl1 x hx; omega
        have hE : ∀ x ∈ l[y].qElse, 0 ≤ x ∧ x < l.length ∧ l.length ≤ x + (d : Nat) := fun x hx => by have := hl2 x hx; omega
        have hrl := (H3.out.keep RStmt_stable ((KeptB.refl 0 base _).below hbB (Nat.le_refl _)))
        obtain ⟨b5, o5, A5, c5, A6, c6, A7, c7, e5, hb5, x0, x1, x2, x3, x4, r2, r3, r4⟩ := RStmt_lit hrl hy
        cases e5
        obtain ⟨tot2, ht2⟩ : ∃ t, t = intL (ordN (kidsOf l) (d + 1) (natL (b.drop (k + 1)))) := ⟨_, rfl⟩
        have hsplit : a ++ [(y : Int)] ++ intL (ordN (kidsOf l) d (natL l[y].qThen)) ++ intL (ordN (kidsOf l) d (natL l[y].qElse)) ++ tot2 = tot := by
          rw [← hacc, ht2]; unfold intL; simp
        have hlen := congrArg List.length hsplit
        simp only [List.length_append, List.length_singleton, intL_length] at hlen
        have HT := hide hT; have HE := hide hE; have Hsplit := hide hsplit; have Ht2 := hide ht2; have R3 := hide r3; have R4 := hide r4
        have HbB := hide hbB; have Hgw := hide hg; have Hbk := hide hbk; have Hown1 := hide hown; have Hx := hide x3; have Hx4 := hide x4
        clear hT hE hsplit ht2 hacc hrl r2 r3 r4 x0 x1 x2 x3 x4 hg hgw hbk hown hl1 hl2 hkid hbB s0
        have hb5w : b5 < wr.heap.size := by omega
        go_wp2_with (at_builtin; refine wpList_pushG rfl _ _ _ rfl okI64 rfl Hown1.out _ rfl rfl rfl (by simp [Value.oneCell']) (by unfold maxLen; omega) (by omega) (by omega) ?_; intro v1 w1 hown1 hg1; have HG1 := hide hg1; have Ho1 := hide (show w1.ownsRow base 3 1 v1 (a ++ [(y : Int)]).length (icells .i64 (a ++ [(y : Int)])) by rw [List.length_append, icells_append]; exact hown1); clear hown1 hg1)
        have hg1 := HG1.out
        have hB1 := (HbB.out.trans (hg1.toBelow Hown1.out (by omega)))
        have hk1 := hg1.bk Hbk.out hne
        have hgA := Hgw.out.trans hg1
        have hne1 : some w.heap.size ≠ v1.ownBlock := by
          rcases hgA.b with e | ⟨j, e, hj⟩
          · rw [e]; intro e2; have := (Hob.out _ e2.symm).2; omega
          · rw [e]; intro e2; injection e2 with e2; rw [World.size_alloc] at hj; omega
        have hz1 := hB1.size
        have hx1 := (hg1.toBelow Hown1.out (by omega)).cell (p := ⟨b5, o5 + y * 5 + 3, none⟩) hb5 |>.trans Hx.out
        have hr1 := RFunc_stable.keep Hr.out ((KeptB.refl 0 base _).below hB1 (Nat.le_refl _))
        have ht1 := (R3.out.keep ((KeptB.refl 0 base _).below (hg1.toBelow Hown1.out (by omega)) (Nat.le_refl _))).rd
        have HB1 := hide hB1; have Hk1 := hide hk1; have HgA := hide hgA; have Hr1 := hide hr1; have Ht1 := hide ht1
        clear hB1 hk1 hgA hg1 hr1 ht1
        have HC1 := hide (ih l[y].qThen (a ++ [(y : Int)]) (.slice A6 l[y].qThen.length c6) v1 (World.drew w1) base _ Hr1.out (by show base ≤ w1.heap.size; omega) Ht1.out Ho1.out HT.out (by simp only [List.length_append, List.length_singleton]; omega))
        have Hx1 := hide hx1; clear hx1
        go_region_held3 (fun w' => w'.cell? ⟨w.heap.size, 0, none⟩ = some (.int .i64 m0) ∧ w'.cell? ⟨w.heap.size, 1, none⟩ = some (.int .i64 m1) ∧ w'.cell? ⟨w.heap.size, 2, none⟩ = some (.slice A2 m2.length c2) ∧ w'.cell? ⟨w.heap.size, 3, none⟩ = some (.slice (some ⟨b5, o5, none⟩) l.length c3) ∧ w'.cell? ⟨b5, o5 + y * 5 + 3, none⟩ = some (.slice A6 l[y].qThen.length c6)) (first | exact ⟨Hk1.out.cell 0, Hk1.out.cell 1, Hk1.out.cell 2, Hk1.out.cell 3, Hx1.out⟩ | exact ⟨Hk2.out.cell 0, Hk2.out.cell 1, Hk2.out.cell 2, Hk2.out.cell 3, Hx2.out⟩)
          (first | (go_at_call 92; refine (HC1.out).mono ?_; rintro e w2 ⟨v2, rfl, hown2, hg2⟩; replace hg2 := Gro.undrew hg2; have Ho2 := hide hown2; have HG2 := hide hg2; have Hk2 := hide (hg2.bk Hk1.out hne1); have Hx2 := hide (((hg2.toBelow Ho1.out (by show base ≤ w1.heap.size; omega)).cell (p := ⟨b5, o5 + y * 5 + 3, none⟩) hb5).trans Hx1.out); clear hown2 hg2))
        go_wp2_with fail
        have hB2 := HB1.out.trans (HG2.out.toBelow Ho1.out (by show base ≤ w1.heap.size; omega))
        have hgB := HgA.out.trans HG2.out
        have hne2 : some w.heap.size ≠ v2.ownBlock := by
          rcases hgB.b with e | ⟨j, e, hj⟩
          · rw [e]; intro e2; have := (Hob.out _ e2.symm).2; omega
          · rw [e]; intro e2; injection e2 with e2; rw [World.size_alloc] at hj; omega
        have hz2 := hB2.size
        have hbw2 : Below base w wr := HbB.out
        have hx2 := hB2.cell (p := ⟨b5, o5 + y * 5 + 4, none⟩) hb5 |>.trans (hbw2.cell (p := ⟨b5, o5 + y * 5 + 4, none⟩) hb5 |>.symm.trans Hx4.out)
        have hr2 := RFunc_stable.keep Hr.out ((KeptB.refl 0 base _).below hB2 (Nat.le_refl _))
        have ht2' := (R4.out.keep (lo := 0) ((show KeptB 0 base wr w2 from fun i h1 h2 => (hB2.block i h2).trans (hbw2.block i h2).symm))).rd
        have HB2 := hide hB2; have HgB := hide hgB; have Hr2 := hide hr2; have Ht2' := hide ht2'; have Hx2' := hide hx2
        clear hB2 hgB hr2 ht2' hx2 hbw2
        have HC2 := hide (ih l[y].qElse _ (.slice A7 l[y].qElse.length c7) v2 (World.drew w2) base _ Hr2.out (by show base ≤ w2.heap.size; omega) Ht2'.out Ho2.out HE.out (by simp only [List.length_append, List.length_singleton, intL_length]; omega))
        go_region_held3 (fun w' => w'.cell? ⟨w.heap.size, 0, none⟩ = some (.int .i64 m0) ∧ w'.cell? ⟨w.heap.size, 1, none⟩ = some (.int .i64 m1) ∧ w'.cell? ⟨w.heap.size, 2, none⟩ = some (.slice A2 m2.length c2) ∧ w'.cell? ⟨w.heap.size, 3, none⟩ = some (.slice (some ⟨b5, o5, none⟩) l.length c3) ∧ w'.cell? ⟨b5, o5 + y * 5 + 4, none⟩ = some (.slice A7 l[y].qElse.length c7)) (first | exact ⟨Hk2.out.cell 0, Hk2.out.cell 1, Hk2.out.cell 2, Hk2.out.cell 3, Hx2'.out⟩ | exact ⟨Hk3.out.cell 0, Hk3.out.cell 1, Hk3.out.cell 2, Hk3.out.cell 3, Hx3.out⟩)
          (first | (go_at_call 92; refine (HC2.out).mono ?_; rintro e w3 ⟨v3, rfl, hown3, hg3⟩; replace hg3 := Gro.undrew hg3; have Ho3 := hide hown3; have HG3 := hide hg3; have Hk3 := hide (hg3.bk Hk2.out hne2); have Hx3 := hide (((hg3.toBelow Ho2.out (by show base ≤ w2.heap.size; omega)).cell (p := ⟨b5, o5 + y * 5 + 4, none⟩) hb5).trans Hx2'.out); clear hown3 hg3))
        go_wp2
        go_roundw
        case rel =>
          have hgC := HgB.out.trans HG3.out
          refine ⟨k + 1, _, by omega, by go_num, ?_, Ho3.out, hgC, ?_, Hk3.out⟩
          · rw [← Hsplit.out, ← Ht2.out]
          · rcases hgC.b with e | ⟨j, e, hj⟩
            · rw [e]; intro e2; have := (Hob.out _ e2.symm).2; omega
            · rw [e]; intro e2; injection e2 with e2; rw [World.size_alloc] at hj; omega
        case measure => simp [intOf]; omega
      · obtain rfl : k = b.length := by omega
        rw [List.drop_length] at hacc
        have e : a = tot := by rw [← hacc]; simp [natL, ord_nil, intL]
        subst e
        have Ho := hide hown; have Hgg := hide (Hg.out.trans hg); clear hown hg hacc hbk
        go_wp2
        go_ret
        exact ⟨_, rfl, Ho.out, Hgg.out⟩
end Go.Proofs.Ytheddnjhkcpmnaa
