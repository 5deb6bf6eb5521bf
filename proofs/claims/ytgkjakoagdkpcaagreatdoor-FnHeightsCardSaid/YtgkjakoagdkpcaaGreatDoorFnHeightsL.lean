
/- laws.FnHeights: it answers true. Conditions: the words and the table lie where the program lays them. -/
import Derived.Test.YtgkjakoagdkpcaaGreatDoorAw
import Derived.Test.YtgkjakoagdkpcaaGreatDoorNxO
import Derived.Test.YtgkjakoagdkpcaaGreatDoorTp
import Derived.Test.YtgkjakoagdkpcaaGreatDoorLw1
import Derived.Test.YtgkjakoagdkpcaaGreatDoorOpen
set_option linter.unusedSimpArgs false
set_option linter.unusedVariables false
set_option maxRecDepth 100000
namespace Go.Proofs.YtgkjakoagdkpcaaGreatDoor
open Go.RowKit Go.WideShapes Go.ChangeShapes

/-- the image in block h -/
structure LhS (w : World) (h : Nat) (A : Option Addr) (c : Nat) (fs : List CodeM) (W : World) : Prop where
  b : Below w.heap.size w W
  p : Bk W h 26 #[.slice A fs.length c]
  r : RL RCode 5 W 0 W.heap.size (.slice A fs.length c) fs
/-- two lists besides -/
structure LhQ (w : World) (h : Nat) (A : Option Addr) (c : Nat) (fs : List CodeM) (v1 v2 : Value) (l1 : List Int) (W : World) : Prop where
  s : LhS w h A c fs W
  r1 : Rd W W.heap.size v1 l1.length (icells .i64 l1)
  r2 : Rd W W.heap.size v2 l1.length (icells .i64 l1)
/-- the heights and the instructions besides -/
structure LhI (w : World) (h : Nat) (A : Option Addr) (c : Nat) (fs : List CodeM) (v1 v2 : Value) (l1 : List Int) (il : List P2) (W : World) : Prop where
  s : LhS w h A c fs W
  r1 : Rd W W.heap.size v1 l1.length (icells .i64 l1)
  ri : Rd W W.heap.size v2 il.length (pcells il)
section
variable {w : World} {h : Nat} {A : Option Addr} {c : Nat} {fs : List CodeM} {v1 v2 : Value} {l1 : List Int} {il : List P2} {W W' : World}
theorem LhS.step (H : LhS w h A c fs W) (hb : Below W.heap.size W W') : LhS w h A c fs W' := ⟨H.b.trans (hb.mono H.b.size), H.p.below hb, H.r.here RCode_stable hb⟩
theorem LhS.drw (H : LhS w h A c fs W) : LhS w h A c fs W.drew := H.step (Below.refl _ _).drew
theorem LhS.rp (H : LhS w h A c fs W) : RImage W 0 W.heap.size [.slice A fs.length c] ⟨fs⟩ := ⟨_, rfl, H.r⟩
theorem LhQ.step (H : LhQ w h A c fs v1 v2 l1 W) (hb : Below W.heap.size W W') : LhQ w h A c fs v1 v2 l1 W' := ⟨H.s.step hb, H.r1.here hb, H.r2.here hb⟩
theorem LhQ.drw (H : LhQ w h A c fs v1 v2 l1 W) : LhQ w h A c fs v1 v2 l1 W.drew := H.step (Below.refl _ _).drew
theorem LhQ.hold (H : LhQ w h A c fs v1 v2 l1 W) : W.cell? ⟨h, 0, none⟩ = some (.slice A fs.length c) ∧ h < W.heap.size := ⟨H.s.p.cell 0, H.s.p.lt⟩
theorem LhI.step (H : LhI w h A c fs v1 v2 l1 il W) (hb : Below W.heap.size W W') : LhI w h A c fs v1 v2 l1 il W' := ⟨H.s.step hb, H.r1.here hb, H.ri.here hb⟩
theorem LhI.alloc (H : LhI w h A c fs v1 v2 l1 il W) (o : Obj) : LhI w h A c fs v1 v2 l1 il (W.alloc o) := H.step ((Below.refl _ _).alloc (Nat.le_refl _) o)
theorem LhI.drewN (H : LhI w h A c fs v1 v2 l1 il W) (q : Nat) : LhI w h A c fs v1 v2 l1 il (W.drewN q) := H.step (below_drewN (Below.refl _ _) q)
end
theorem RCode_ins {w : World} {hi c i : Nat} {A : Option Addr} {l : List CodeM} (h : RL RCode 5 w 0 hi (.slice A l.length c) l) (hl : i < l.length) :
    ∃ (b o : Nat) (iA : Option Addr) (ic : Nat), A = some ⟨b, o, none⟩ ∧ b < hi ∧ w.cell? ⟨b, o + i * 5 + 3, none⟩ = some (.slice iA l[i].qIns.length ic) ∧ Rd w hi (.slice iA l[i].qIns.length ic) l[i].qIns.length (pcells l[i].qIns) := by
  obtain ⟨b, o, v2, v3, v4, hA, hb, _, _, _, k3, _, hr⟩ := RCode_at h hl
  obtain ⟨u2, u3, u4, e, _, h3, _⟩ := hr
  simp only [List.cons.injEq, and_true, true_and] at e
  obtain ⟨rfl, rfl, rfl⟩ := e
  obtain ⟨iA, ic, rfl⟩ := h3.form
  exact ⟨b, o, iA, ic, hA, hb, k3, h3.rd⟩
theorem rd_int {w : World} {B b o c j : Nat} {zs : List Int} (h : Rd w B (.slice (some ⟨b, o, none⟩) zs.length c) zs.length (icells .i64 zs)) (hj : j < zs.length) : w.cell? ⟨b, o + j, none⟩ = some (.int .i64 zs[j]) ∧ b < B := by
  obtain ⟨b', o', e, hb, hc⟩ := h.at_ (j := j) (by rw [icells_length]; exact hj)
  rw [icells_get _ _ hj] at hc
  cases e
  exact ⟨hc, hb⟩
set_option maxHeartbeats 64000000 in
theorem law_FnHeights (w : World) (v1 : Value) (i1 : IsU8s w v1) (v2 : Value) (i2 : IsU8s w v2) (ht : P10 w) (hg : 1 < w.heap.size) (hw : InsWs w) :
    Calls Tryz.prog 3 #[v1, v2] w fun e w' => e = .returned (.bool true) ∧ Below w.heap.size w w' := by
  obtain ⟨z1, hr1, hz1⟩ := i1
  obtain ⟨z2, hr2, hz2⟩ := i2
  have hy1 : ∀ z ∈ z1, 0 ≤ z ∧ z ≤ 255 := fun z h => bd_u8 (hz1 z h)
  have hy2 : ∀ z ∈ z2, 0 ≤ z ∧ z ≤ 255 := fun z h => bd_u8 (hz2 z h)
  have hd1 := fun W (hW : Below w.heap.size w W) => spec_DrawHeightsOf _ z1 W (hr1.here hW) hy1
  have hd2 := fun W (hW : Below w.heap.size w W) => spec_DrawTakesPuts _ z2 W (hr2.here hW) hy2
  have hd3 := fun W (hW : Below w.heap.size w W) => spec_DrawNextOf _ z2 W (hr2.here hW) hy2
  have hd4 := fun W (hW : Below w.heap.size w W) => spec_DrawInsText _ z2 W (hr2.here hW) hy2
  have hI := fun o n W (hW : Below w.heap.size w W) => impl_InsText o n W (ht.below hW hg) (Nat.lt_of_lt_of_le hg hW.size) ⟨Nat.lt_of_lt_of_le hw.1 hW.size, fun k hk => (hW.cell (p := ⟨0, k, none⟩) hw.1).trans (hw.2 k hk)⟩
  obtain ⟨A1, c1, rfl, p1, p2, _⟩ := id hr1
  obtain ⟨A2, c2, rfl, p3, p4, _⟩ := id hr2
  have hB := fun W => laws_big A1 A2 c1 c2 z1.length z2.length (by unfold maxLen at p2; omega) (by unfold maxLen at p4; omega) W
  have D1 := Lib.hid hd1; have D2 := Lib.hid hd2; have D3 := Lib.hid hd3; have D4 := Lib.hid hd4; have TI := Lib.hid hI
  clear hr1 hr2 hz1 hz2 hy1 hy2 hd1 hd2 hd3 hd4 hI p1 p2 p3 p4 ht hg hw
  cases hbig : bigB z1.length z2.length
  case true =>
    simp only [hbig] at hB
    have HB := Lib.hid hB
    clear hB hbig D1 D2 D3 D4 TI
    go_enter Tryz.func3, Tryz.ntmps3
    go_wp2_with (go_at_call 4; refine (HB.out _).mono ?_; rintro e w1 ⟨rfl, rfl⟩)
    go_ret
    exact ⟨rfl, Below.refl _ _⟩
  simp only [hbig] at hB
  have HB := Lib.hid hB; have Hb := hide (Below.refl w.heap.size w)
  clear hB hbig
  go_enter Tryz.func3, Tryz.ntmps3
  go_upto_region 4 with (first
    | (go_at_call 4; refine (HB.out _).mono ?_; rintro e w0 ⟨rfl, h0⟩; rw [h0]; clear h0)
    | (go_at_call 5; refine (D1.out _ Hb.out).mono ?_; rintro e w1 ⟨pA, pc, fs, fn, rfl, hr, hsz, hb⟩; have HL := hide (show LhS w w1.heap.size pA pc fs (w1.alloc (.cells #[.slice pA fs.length pc] 26)) from ⟨hb.alloc hb.size _, Bk.new _ _ _, (hr.more RCode_stable (Nat.zero_le _) (Nat.le_refl _)).here RCode_stable ((Below.refl _ _).alloc (Nat.le_refl _) _)⟩); clear hr hb))
  have hzp : szImageN ⟨fs⟩ ≤ 1048576 := by show szCodesN fs ≤ _; omega
  have e1 := fun W (h : RImage W 0 W.heap.size [.slice pA fs.length pc] ⟨fs⟩) => impl_call_HeightsOf _ ⟨fs⟩ fn W h hzp
  have e2 := fun W (h : RImage W 0 W.heap.size [.slice pA fs.length pc] ⟨fs⟩) => spec_call_HeightsOf _ ⟨fs⟩ fn W h hzp
  have e3 := fun W (h : RImage W 0 W.heap.size [.slice pA fs.length pc] ⟨fs⟩) => impl_GoodCode _ ⟨fs⟩ fn W h
  have e4 := fun W (h : RImage W 0 W.heap.size [.slice pA fs.length pc] ⟨fs⟩) => spec_GoodCode _ ⟨fs⟩ fn W h
  have e5 := fun W (h : RImage W 0 W.heap.size [.slice pA fs.length pc] ⟨fs⟩) => impl_GoodImage _ ⟨fs⟩ W h
  have e6 := fun W (h : RImage W 0 W.heap.size [.slice pA fs.length pc] ⟨fs⟩) => spec_GoodImage _ ⟨fs⟩ W h
  have hfa := @ho_facts fs fn
  have hok : hoOk fs fn = (gcOk fs fn && decide (gcR fs fn = 0)) := rfl
  dsimp only at e1 e2 e3 e4 e5 e6
  generalize hoR fs fn = L at *
  generalize hoOk fs fn = ok at *
  generalize gcOk fs fn = B1 at *
  generalize gcR fs fn = n1 at *
  generalize imgB fs = B2 at *
  have E1 := Lib.hid e1; have E2 := Lib.hid e2; have E3 := Lib.hid e3; have E4 := Lib.hid e4; have E5 := Lib.hid e5; have E6 := Lib.hid e6; have Hfa := Lib.hid hfa; have Hok := Lib.hid hok
  clear e1 e2 e3 e4 e5 e6 hfa hok hzp
  have p0 := HL.out.p.cell 0; have pl := HL.out.p.lt
  go_upto_region 8 with (first
    | (go_at_call 6; refine (E1.out _ HL.out.rp).mono ?_; rintro e w2 ⟨u1, rfl, ho, hb⟩; obtain ⟨uA1, uc1, rfl⟩ := own_form ho; have HL := hide (HL.out.step hb); have HR1 := hide (Rd.of_own ho); have p0 := HL.out.p.cell 0; have pl := HL.out.p.lt; clear ho hb)
    | (go_at_call 7; refine (E2.out _ HL.out.rp).mono ?_; rintro e w3 ⟨u2, rfl, ho, hb⟩; obtain ⟨uA2, uc2, rfl⟩ := own_form ho; have HQ := hide (show LhQ w w1.heap.size pA pc fs (.slice uA1 L.length uc1) (.slice uA2 L.length uc2) L w3 from ⟨HL.out.step hb, HR1.out.here hb, Rd.of_own ho⟩); have p0 := HQ.out.s.p.cell 0; have pl := HQ.out.s.p.lt; clear ho hb)
    | (go_at_call 8; refine (E3.out _ HQ.out.s.rp).mono ?_; rintro e w4 ⟨rfl, hb⟩; have HQ := hide (HQ.out.step hb); have p0 := HQ.out.s.p.cell 0; have pl := HQ.out.s.p.lt; clear hb)
    | (go_at_call 9; refine (E4.out _ HQ.out.s.rp).mono ?_; rintro e w5 ⟨rfl, hb⟩; have HQ := hide (HQ.out.step hb); clear hb))
  clear p0 pl
  generalize hh : w1.heap.size = h at *
  clear HL HR1 hh
  go_cut [109] (fun t wx => t = .bool false ∧ LhQ w h pA pc fs (.slice uA1 L.length uc1) (.slice uA2 L.length uc2) L wx)
  case first => as_aux_lemma =>
    have HQ := hide HQ.out.drw
    have hok := Hok.out
    clear Hok Hfa
    cases B1
    · obtain rfl : ok = false := by simpa using hok
      clear hok
      -- HAND{ printed by mk_fh.py
      refine wp_region_noPanic ?_
      refine wp_region_held_drew (S := fun w' => w'.cell? ⟨h, 0, none⟩ = some (.slice pA fs.length pc) ∧ h < w'.heap.size) (by kernel_rfl) (by exact HQ.out.hold) (fun hHeld => ?_)
      refine wpAnyH_take (i := 0) (v := ?_) rfl (by kernel_rfl) (by kernel_rfl) (by kernel_rfl) (fun _ _ _ h => h) (Or.inl ⟨by kernel_rfl, ?_⟩) (by assumption) ?_
      rotate_left 1
      · (intro w hSw; (try dsimp only at hSw); go_simp; (try with_reducible rfl))
      try simp only [Act.put, List.getElem_toArray, List.getElem_cons_succ, List.getElem_cons_zero, List.setIfInBounds_toArray, List.set_cons_zero, List.set_cons_succ]
      refine wpAnyH_take (i := 1) (v := ?_) rfl (by kernel_rfl) (by kernel_rfl) (by kernel_rfl) (fun _ _ _ h => h) (Or.inl ⟨by kernel_rfl, ?_⟩) (by assumption) ?_
      rotate_left 1
      · (intro w hSw; (try dsimp only at hSw); go_simp; (try with_reducible rfl))
      try simp only [Act.put, List.getElem_toArray, List.getElem_cons_succ, List.getElem_cons_zero, List.setIfInBounds_toArray, List.set_cons_zero, List.set_cons_succ]
      refine wpAnyH_take (i := 2) (v := ?_) rfl (by kernel_rfl) (by kernel_rfl) (by kernel_rfl) (fun _ _ _ h => h) (Or.inl ⟨by kernel_rfl, ?_⟩) (by assumption) ?_
      rotate_left 1
      · (intro w hSw; (try dsimp only at hSw); go_simp; (try with_reducible rfl))
      try simp only [Act.put, List.getElem_toArray, List.getElem_cons_succ, List.getElem_cons_zero, List.setIfInBounds_toArray, List.set_cons_zero, List.set_cons_succ]
      refine wpAnyH_take (i := 3) (v := ?_) rfl (by kernel_rfl) (by kernel_rfl) (by kernel_rfl) (fun _ _ _ h => h) (Or.inl ⟨by kernel_rfl, ?_⟩) (by assumption) ?_
      rotate_left 1
      · (intro w hSw; (try dsimp only at hSw); go_simp; (try with_reducible rfl))
      try simp only [Act.put, List.getElem_toArray, List.getElem_cons_succ, List.getElem_cons_zero, List.setIfInBounds_toArray, List.set_cons_zero, List.set_cons_succ]
      refine wpAnyH_take (i := 4) (v := ?_) rfl (by kernel_rfl) (by kernel_rfl) (by kernel_rfl) (fun _ _ _ h => h) (Or.inl ⟨by kernel_rfl, ?_⟩) (by assumption) ?_
      rotate_left 1
      · (intro w hSw; (try dsimp only at hSw); go_simp; (try with_reducible rfl))
      try simp only [Act.put, List.getElem_toArray, List.getElem_cons_succ, List.getElem_cons_zero, List.setIfInBounds_toArray, List.set_cons_zero, List.set_cons_succ]
      refine wpAnyH_take (i := 5) (v := ?_) rfl (by kernel_rfl) (by kernel_rfl) (by kernel_rfl) (fun _ _ _ h => h) (Or.inl ⟨by kernel_rfl, ?_⟩) (by assumption) ?_
      rotate_left 1
      · (intro w hSw; (try dsimp only at hSw); go_simp; (try with_reducible rfl))
      try simp only [Act.put, List.getElem_toArray, List.getElem_cons_succ, List.getElem_cons_zero, List.setIfInBounds_toArray, List.set_cons_zero, List.set_cons_succ]
      refine wpAnyH_ready (rs := [6]) (by kernel_rfl) (by simp) ?_
      refine AllReadyH.cons rfl (fun K hK => ?_) AllReadyH.nil
      go_simp
      go_at_call 10; refine (laws_sameInts _ _ L _ _ _ HQ.out.r1 HQ.out.r2).mono ?_; rintro e w8 ⟨rfl, hb⟩; have HQ := hide (HQ.out.step hb); clear hb
      refine hK.out _ _ ?_ (fun hHeld => ?_)
      · with_reducible exact HQ.out.hold
      clear hK K
      try simp only [Act.put, List.getElem_toArray, List.getElem_cons_succ, List.getElem_cons_zero, List.setIfInBounds_toArray, List.set_cons_zero, List.set_cons_succ]
      refine wpAnyH_take (i := 7) (v := ?_) rfl (by kernel_rfl) (by kernel_rfl) (by kernel_rfl) (fun _ _ _ h => h) (Or.inl ⟨by kernel_rfl, ?_⟩) (by assumption) ?_
      rotate_left 1
      · (intro w hSw; (try dsimp only at hSw); go_simp; (try with_reducible rfl))
      try simp only [Act.put, List.getElem_toArray, List.getElem_cons_succ, List.getElem_cons_zero, List.setIfInBounds_toArray, List.set_cons_zero, List.set_cons_succ]
      refine wpAnyH_take (i := 8) (v := ?_) rfl (by kernel_rfl) (by kernel_rfl) (by kernel_rfl) (fun _ _ _ h => h) (Or.inl ⟨by kernel_rfl, ?_⟩) (by assumption) ?_
      rotate_left 1
      · (intro w hSw; (try dsimp only at hSw); go_simp; (try with_reducible rfl))
      try simp only [Act.put, List.getElem_toArray, List.getElem_cons_succ, List.getElem_cons_zero, List.setIfInBounds_toArray, List.set_cons_zero, List.set_cons_succ]
      refine wpAnyH_take (i := 9) (v := ?_) rfl (by kernel_rfl) (by kernel_rfl) (by kernel_rfl) (fun _ _ _ h => h) (Or.inl ⟨by kernel_rfl, ?_⟩) (by assumption) ?_
      rotate_left 1
      · (intro w hSw; (try dsimp only at hSw); go_simp; (try with_reducible rfl))
      try simp only [Act.put, List.getElem_toArray, List.getElem_cons_succ, List.getElem_cons_zero, List.setIfInBounds_toArray, List.set_cons_zero, List.set_cons_succ]
      refine wpAnyH_take (i := 10) (v := ?_) rfl (by kernel_rfl) (by kernel_rfl) (by kernel_rfl) (fun _ _ _ h => h) (Or.inl ⟨by kernel_rfl, ?_⟩) (by assumption) ?_
      rotate_left 1
      · (intro w hSw; (try dsimp only at hSw); go_simp; (try with_reducible rfl))
      try simp only [Act.put, List.getElem_toArray, List.getElem_cons_succ, List.getElem_cons_zero, List.setIfInBounds_toArray, List.set_cons_zero, List.set_cons_succ]
      refine wpAnyH_take (i := 11) (v := ?_) rfl (by kernel_rfl) (by kernel_rfl) (by kernel_rfl) (fun _ _ _ h => h) (Or.inl ⟨by kernel_rfl, ?_⟩) (by assumption) ?_
      rotate_left 1
      · (intro w hSw; (try dsimp only at hSw); go_simp; (try with_reducible rfl))
      try simp only [Act.put, List.getElem_toArray, List.getElem_cons_succ, List.getElem_cons_zero, List.setIfInBounds_toArray, List.set_cons_zero, List.set_cons_succ]
      refine wpAnyH_take (i := 12) (v := ?_) rfl (by kernel_rfl) (by kernel_rfl) (by kernel_rfl) (fun _ _ _ h => h) (Or.inl ⟨by kernel_rfl, ?_⟩) (by assumption) ?_
      rotate_left 1
      · (intro w hSw; (try dsimp only at hSw); go_simp; (try with_reducible rfl))
      try simp only [Act.put, List.getElem_toArray, List.getElem_cons_succ, List.getElem_cons_zero, List.setIfInBounds_toArray, List.set_cons_zero, List.set_cons_succ]
      refine wpAnyH_take (i := 13) (v := ?_) rfl (by kernel_rfl) (by kernel_rfl) (by kernel_rfl) (fun _ _ _ h => h) (Or.inl ⟨by kernel_rfl, ?_⟩) (by assumption) ?_
      rotate_left 1
      · (intro w hSw; (try dsimp only at hSw); go_simp; (try with_reducible rfl))
      try simp only [Act.put, List.getElem_toArray, List.getElem_cons_succ, List.getElem_cons_zero, List.setIfInBounds_toArray, List.set_cons_zero, List.set_cons_succ]
      refine wpAnyH_take (i := 14) (v := ?_) rfl (by kernel_rfl) (by kernel_rfl) (by kernel_rfl) (fun _ _ _ h => h) (Or.inl ⟨by kernel_rfl, ?_⟩) (by assumption) ?_
      rotate_left 1
      · (intro w hSw; (try dsimp only at hSw); go_simp; (try with_reducible rfl))
      try simp only [Act.put, List.getElem_toArray, List.getElem_cons_succ, List.getElem_cons_zero, List.setIfInBounds_toArray, List.set_cons_zero, List.set_cons_succ]
      refine wpAnyH_take (i := 15) (v := ?_) rfl (by kernel_rfl) (by kernel_rfl) (by kernel_rfl) (fun _ _ _ h => h) (Or.inl ⟨by kernel_rfl, ?_⟩) (by assumption) ?_
      rotate_left 1
      · (intro w hSw; (try dsimp only at hSw); go_simp; (try with_reducible rfl))
      try simp only [Act.put, List.getElem_toArray, List.getElem_cons_succ, List.getElem_cons_zero, List.setIfInBounds_toArray, List.set_cons_zero, List.set_cons_succ]
      refine wpAnyH_take (i := 16) (v := ?_) rfl (by kernel_rfl) (by kernel_rfl) (by kernel_rfl) (fun _ _ _ h => h) (Or.inl ⟨by kernel_rfl, ?_⟩) (by assumption) ?_
      rotate_left 1
      · (intro w hSw; (try dsimp only at hSw); go_simp; (try with_reducible rfl))
      try simp only [Act.put, List.getElem_toArray, List.getElem_cons_succ, List.getElem_cons_zero, List.setIfInBounds_toArray, List.set_cons_zero, List.set_cons_succ]
      refine wpAnyH_take (i := 17) (v := ?_) rfl (by kernel_rfl) (by kernel_rfl) (by kernel_rfl) (fun _ _ _ h => h) (Or.inl ⟨by kernel_rfl, ?_⟩) (by assumption) ?_
      rotate_left 1
      · (intro w hSw; (try dsimp only at hSw); go_simp; (try with_reducible rfl))
      try simp only [Act.put, List.getElem_toArray, List.getElem_cons_succ, List.getElem_cons_zero, List.setIfInBounds_toArray, List.set_cons_zero, List.set_cons_succ]
      refine wpAnyH_take (i := 18) (v := ?_) rfl (by kernel_rfl) (by kernel_rfl) (by kernel_rfl) (fun _ _ _ h => h) (Or.inl ⟨by kernel_rfl, ?_⟩) (by assumption) ?_
      rotate_left 1
      · (intro w hSw; (try dsimp only at hSw); go_simp; (try with_reducible rfl))
      try simp only [Act.put, List.getElem_toArray, List.getElem_cons_succ, List.getElem_cons_zero, List.setIfInBounds_toArray, List.set_cons_zero, List.set_cons_succ]
      refine wpAnyH_take (i := 19) (v := ?_) rfl (by kernel_rfl) (by kernel_rfl) (by kernel_rfl) (fun _ _ _ h => h) (Or.inl ⟨by kernel_rfl, ?_⟩) (by assumption) ?_
      rotate_left 1
      · (intro w hSw; (try dsimp only at hSw); go_simp; (try with_reducible rfl))
      try simp only [Act.put, List.getElem_toArray, List.getElem_cons_succ, List.getElem_cons_zero, List.setIfInBounds_toArray, List.set_cons_zero, List.set_cons_succ]
      refine wpAnyH_take (i := 20) (v := ?_) rfl (by kernel_rfl) (by kernel_rfl) (by kernel_rfl) (fun _ _ _ h => h) (Or.inl ⟨by kernel_rfl, ?_⟩) (by assumption) ?_
      rotate_left 1
      · (intro w hSw; (try dsimp only at hSw); go_simp; (try with_reducible rfl))
      try simp only [Act.put, List.getElem_toArray, List.getElem_cons_succ, List.getElem_cons_zero, List.setIfInBounds_toArray, List.set_cons_zero, List.set_cons_succ]
      refine wpAnyH_take (i := 21) (v := ?_) rfl (by kernel_rfl) (by kernel_rfl) (by kernel_rfl) (fun _ _ _ h => h) (Or.inl ⟨by kernel_rfl, ?_⟩) (by assumption) ?_
      rotate_left 1
      · (intro w hSw; (try dsimp only at hSw); go_simp; (try with_reducible rfl))
      try simp only [Act.put, List.getElem_toArray, List.getElem_cons_succ, List.getElem_cons_zero, List.setIfInBounds_toArray, List.set_cons_zero, List.set_cons_succ]
      refine wpAnyH_take (i := 22) (v := ?_) rfl (by kernel_rfl) (by kernel_rfl) (by kernel_rfl) (fun _ _ _ h => h) (Or.inl ⟨by kernel_rfl, ?_⟩) (by assumption) ?_
      rotate_left 1
      · (intro w hSw; (try dsimp only at hSw); go_simp; (try with_reducible rfl))
      try simp only [Act.put, List.getElem_toArray, List.getElem_cons_succ, List.getElem_cons_zero, List.setIfInBounds_toArray, List.set_cons_zero, List.set_cons_succ]
      refine wpAnyH_take (i := 23) (v := undef) rfl (by kernel_rfl) (by kernel_rfl) (by kernel_rfl) (fun _ _ _ h => h) (Or.inr ⟨by kernel_rfl, rfl⟩) (by assumption) ?_
      try simp only [Act.put, List.getElem_toArray, List.getElem_cons_succ, List.getElem_cons_zero, List.setIfInBounds_toArray, List.set_cons_zero, List.set_cons_succ]
      refine wpAnyH_take (i := 24) (v := undef) rfl (by kernel_rfl) (by kernel_rfl) (by kernel_rfl) (fun _ _ _ h => h) (Or.inr ⟨by kernel_rfl, rfl⟩) (by assumption) ?_
      try simp only [Act.put, List.getElem_toArray, List.getElem_cons_succ, List.getElem_cons_zero, List.setIfInBounds_toArray, List.set_cons_zero, List.set_cons_succ]
      refine wpAnyH_take (i := 25) (v := ?_) rfl (by kernel_rfl) (by kernel_rfl) (by kernel_rfl) (fun _ _ _ h => h) (Or.inl ⟨by kernel_rfl, ?_⟩) (by assumption) ?_
      rotate_left 1
      · (intro w hSw; (try dsimp only at hSw); go_simp; (try with_reducible rfl))
      try simp only [Act.put, List.getElem_toArray, List.getElem_cons_succ, List.getElem_cons_zero, List.setIfInBounds_toArray, List.set_cons_zero, List.set_cons_succ]
      refine wpAnyH_take (i := 26) (v := ?_) rfl (by kernel_rfl) (by kernel_rfl) (by kernel_rfl) (fun _ _ _ h => h) (Or.inl ⟨by kernel_rfl, ?_⟩) (by assumption) ?_
      rotate_left 1
      · (intro w hSw; (try dsimp only at hSw); go_simp; (try with_reducible rfl))
      try simp only [Act.put, List.getElem_toArray, List.getElem_cons_succ, List.getElem_cons_zero, List.setIfInBounds_toArray, List.set_cons_zero, List.set_cons_succ]
      refine wpAnyH_take (i := 27) (v := ?_) rfl (by kernel_rfl) (by kernel_rfl) (by kernel_rfl) (fun _ _ _ h => h) (Or.inl ⟨by kernel_rfl, ?_⟩) (by assumption) ?_
      rotate_left 1
      · (intro w hSw; (try dsimp only at hSw); go_simp; (try with_reducible rfl))
      try simp only [Act.put, List.getElem_toArray, List.getElem_cons_succ, List.getElem_cons_zero, List.setIfInBounds_toArray, List.set_cons_zero, List.set_cons_succ]
      refine wpAnyH_take (i := 28) (v := ?_) rfl (by kernel_rfl) (by kernel_rfl) (by kernel_rfl) (fun _ _ _ h => h) (Or.inl ⟨by kernel_rfl, ?_⟩) (by assumption) ?_
      rotate_left 1
      · (intro w hSw; (try dsimp only at hSw); go_simp; (try with_reducible rfl))
      try simp only [Act.put, List.getElem_toArray, List.getElem_cons_succ, List.getElem_cons_zero, List.setIfInBounds_toArray, List.set_cons_zero, List.set_cons_succ]
      refine wpAnyH_take (i := 29) (v := ?_) rfl (by kernel_rfl) (by kernel_rfl) (by kernel_rfl) (fun _ _ _ h => h) (Or.inl ⟨by kernel_rfl, ?_⟩) (by assumption) ?_
      rotate_left 1
      · (intro w hSw; (try dsimp only at hSw); go_simp; (try with_reducible rfl))
      try simp only [Act.put, List.getElem_toArray, List.getElem_cons_succ, List.getElem_cons_zero, List.setIfInBounds_toArray, List.set_cons_zero, List.set_cons_succ]
      refine wpAnyH_take (i := 31) (v := ?_) rfl (by kernel_rfl) (by kernel_rfl) (by kernel_rfl) (fun _ _ _ h => h) (Or.inl ⟨by kernel_rfl, ?_⟩) (by assumption) ?_
      rotate_left 1
      · (intro w hSw; (try dsimp only at hSw); go_simp; (try with_reducible rfl))
      try simp only [Act.put, List.getElem_toArray, List.getElem_cons_succ, List.getElem_cons_zero, List.setIfInBounds_toArray, List.set_cons_zero, List.set_cons_succ]
      refine wpAnyH_ready (rs := [30]) (by kernel_rfl) (by simp) ?_
      refine AllReadyH.cons rfl (fun K hK => ?_) AllReadyH.nil
      go_simp
      go_at_call 11; refine (E5.out _ HQ.out.s.rp).mono ?_; rintro e w9 ⟨rfl, hb⟩; have HQ := hide (HQ.out.step hb); clear hb
      refine hK.out _ _ ?_ (fun hHeld => ?_)
      · with_reducible exact HQ.out.hold
      clear hK K
      try simp only [Act.put, List.getElem_toArray, List.getElem_cons_succ, List.getElem_cons_zero, List.setIfInBounds_toArray, List.set_cons_zero, List.set_cons_succ]
      refine wpAnyH_ready (rs := [32]) (by kernel_rfl) (by simp) ?_
      refine AllReadyH.cons rfl (fun K hK => ?_) AllReadyH.nil
      go_simp
      go_at_call 12; refine (E6.out _ HQ.out.s.rp).mono ?_; rintro e w10 ⟨rfl, hb⟩; have HQ := hide (HQ.out.step hb); clear hb
      refine hK.out _ _ ?_ (fun hHeld => ?_)
      · with_reducible exact HQ.out.hold
      clear hK K
      try simp only [Act.put, List.getElem_toArray, List.getElem_cons_succ, List.getElem_cons_zero, List.setIfInBounds_toArray, List.set_cons_zero, List.set_cons_succ]
      refine wpAnyH_take (i := 33) (v := ?_) rfl (by kernel_rfl) (by kernel_rfl) (by kernel_rfl) (fun _ _ _ h => h) (Or.inl ⟨by kernel_rfl, ?_⟩) (by assumption) ?_
      rotate_left 1
      · (intro w hSw; (try dsimp only at hSw); go_simp; (try with_reducible rfl))
      try simp only [Act.put, List.getElem_toArray, List.getElem_cons_succ, List.getElem_cons_zero, List.setIfInBounds_toArray, List.set_cons_zero, List.set_cons_succ]
      refine wpAnyH_take (i := 34) (v := ?_) rfl (by kernel_rfl) (by kernel_rfl) (by kernel_rfl) (fun _ _ _ h => h) (Or.inl ⟨by kernel_rfl, ?_⟩) (by assumption) ?_
      rotate_left 1
      · (intro w hSw; (try dsimp only at hSw); go_simp; (try with_reducible rfl))
      try simp only [Act.put, List.getElem_toArray, List.getElem_cons_succ, List.getElem_cons_zero, List.setIfInBounds_toArray, List.set_cons_zero, List.set_cons_succ]
      refine wpAnyH_done (by kernel_rfl) ?_ _
      refine NoPanic.normal ?_
      go_wp2_with fail
      go_meet
      exact ⟨rfl, HQ.out⟩
    · by_cases hn1 : n1 = 0
      · subst hn1
        obtain rfl : ok = true := by simpa using hok
        clear hok
        go_region_held3 (fun w' => w'.cell? ⟨h, 0, none⟩ = some (.slice pA fs.length pc) ∧ h < w'.heap.size) (with_reducible exact HQ.out.hold)
          (first
            | (go_at_call 10; refine (laws_sameInts _ _ L _ _ _ HQ.out.r1 HQ.out.r2).mono ?_; rintro e w8 ⟨rfl, hb⟩; have HQ := hide (HQ.out.step hb); clear hb)
            | (go_at_call 11; refine (E5.out _ HQ.out.s.rp).mono ?_; rintro e w9 ⟨rfl, hb⟩; have HQ := hide (HQ.out.step hb); clear hb)
            | (go_at_call 12; refine (E6.out _ HQ.out.s.rp).mono ?_; rintro e w10 ⟨rfl, hb⟩; have HQ := hide (HQ.out.step hb); clear hb))
        all_goals
          go_wp2_with fail
          go_meet
          exact ⟨rfl, HQ.out⟩
      · obtain rfl : ok = false := by simpa [hn1] using hok
        have en : (n1 == 0) = false := beq_eq_false_iff_ne.2 hn1
        clear hok hn1
        go_region_held3 (fun w' => w'.cell? ⟨h, 0, none⟩ = some (.slice pA fs.length pc) ∧ h < w'.heap.size) (with_reducible exact HQ.out.hold)
          (first
            | (go_at_call 10; refine (laws_sameInts _ _ L _ _ _ HQ.out.r1 HQ.out.r2).mono ?_; rintro e w8 ⟨rfl, hb⟩; have HQ := hide (HQ.out.step hb); clear hb)
            | (go_at_call 11; refine (E5.out _ HQ.out.s.rp).mono ?_; rintro e w9 ⟨rfl, hb⟩; have HQ := hide (HQ.out.step hb); clear hb)
            | (go_at_call 12; refine (E6.out _ HQ.out.s.rp).mono ?_; rintro e w10 ⟨rfl, hb⟩; have HQ := hide (HQ.out.step hb); clear hb))
        all_goals
          go_wp2_with fail
          go_meet
          exact ⟨rfl, HQ.out⟩
  case rest => as_aux_lemma =>
    obtain ⟨rfl, hs⟩ := hcut
    clear HQ Hok E1 E2 E3 E4 E5 E6
    have HQ := hide hs
    clear hs
    go_upto_if 110 with fail
    go_cut [] (fun wx => Below w.heap.size w wx)
    case first => as_aux_lemma =>
      cases ok
      · go_wp2_with fail
        go_meet
        exact HQ.out.s.b
      obtain ⟨n, hn, rfl, hLn, hN, hat⟩ := Hfa.out rfl
      obtain ⟨b, o, iA, ic, rfl, hbb, k3, hri⟩ := RCode_ins HQ.out.s.r hn
      have hnI : (n : Int) < (fs.length : Int) := Int.ofNat_lt.2 hn
      have hnI0 : (0 : Int) ≤ (n : Int) := Int.natCast_nonneg n
      generalize fs[n].qIns = il at *
      have HI := hide (LhI.mk HQ.out.s HQ.out.r1 hri)
      have Hat := Lib.hid hat
      have p0 := HQ.out.s.p.cell 0; have pl := HQ.out.s.p.lt
      have HLn := Lib.hid hLn
      have hL1 : L.length ≤ il.length := by omega
      have hL2 : il.length ≤ L.length := by omega
      clear hri hat Hfa HQ hLn
      go_wp2_with fail
      go_loopw [118] (fun i wr => ∃ k : Nat, k ≤ il.length ∧ i = .int .i64 k ∧ LhI w h (some ⟨b, o, none⟩) pc fs (.slice uA1 L.length uc1) (.slice iA il.length ic) L il wr) (fun i _ => il.length - (intOf i).toNat)
      case atStart => exact ⟨0, by omega, rfl, HI.out⟩
      case round =>
        obtain ⟨k, hk, rfl, hI⟩ := hrel
        clear HI p0 pl k3 hbb
        by_cases hlt : k < il.length
        case neg =>
          obtain rfl : k = il.length := by omega
          have HI := hide hI
          clear hI
          go_wp2_with fail
          go_meet
          exact HI.out.s.b
        case pos =>
          have hltL : k < L.length := by omega
          obtain ⟨ib, io, rfl, hib, t0, t1⟩ := hI.ri.two hlt
          obtain ⟨lb, lo, rfl, hlb, l0⟩ := hI.r1.at_ (j := k) (by rw [icells_length]; exact hltL)
          rw [icells_get _ _ hltL] at l0
          have hfa := Hat.out k hlt hltL
          have hkI : (k : Int) < (il.length : Int) := by omega
          have hkL : (k : Int) < (L.length : Int) := by omega
          have hk0 : (0 : Int) ≤ (k : Int) := by omega
          by_cases hneg : L[k] < 0
          · have HI := hide hI
            clear hI hfa Hat
            generalize L[k] = v at *
            go_wp2_with fail
            go_roundw
            case rel => exact ⟨k + 1, hlt, by go_num, HI.out.alloc _⟩
            case measure => simp [intOf]; omega
          · obtain ⟨q1, q2, q3, q4, q5, q6, q7⟩ := hfa (by omega)
            have q8 := puts_bd il[k]
            have a1 := fun W (h : RImage W 0 W.heap.size [.slice (some ⟨b, o, none⟩) fs.length pc] ⟨fs⟩) => impl_TakesPuts _ ⟨fs⟩ (il[k]).o (il[k]).n W h
            have a2 := fun W => impl_NextOf (il[k]).o (il[k]).n (k : Int) W
            have ee : (⟨(il[k]).o, (il[k]).n⟩ : P2) = il[k] := rfl
            dsimp only at a1
            simp only [ee, q1] at a1
            simp only [ee, q2] at a2
            clear ee q1 q2
            generalize nxR il[k] k = NL at *
            generalize takes fs il[k] = tk at *
            generalize puts il[k] = pt at *
            generalize (il[k]).o = tO at *
            generalize (il[k]).n = tN at *
            obtain ⟨v, hv⟩ : ∃ v, L[k] = v := ⟨_, rfl⟩
            rw [hv] at l0 q3 q6 hneg
            simp only [hv] at q7
            have Q7 := Lib.hid q7; have HV := Lib.hid hv; have A1 := Lib.hid a1; have A2 := Lib.hid a2
            have hv0 : 0 ≤ v := by omega
            obtain ⟨q9, q10⟩ := q8
            clear hfa q7 hv a1 a2 Hat
            have HI := hide (hI.alloc (.cells #[.int .i64 tO, .int .i64 tN] 41))
            have HK := hide (Bk.new wr 41 #[.int .i64 tO, .int .i64 tN])
            have p0 := hI.s.p.cell 0; have pl := hI.s.p.lt
            clear hI
            go_upto_region 17 with (first
              | (go_at_call 13; refine (A1.out _ HI.out.s.rp).mono ?_; rintro e w12 ⟨rfl, hb⟩; have HI := hide (HI.out.step hb); have HK := hide (HK.out.below hb); have j0 := HK.out.cell 0; have j1 := HK.out.cell 1; have jl := HK.out.lt; clear hb)
              | (go_at_call 14; refine (A2.out _).mono ?_; rintro e w13 ⟨u3, rfl, ho, hb⟩; obtain ⟨nA, nc, rfl⟩ := own_form ho; have HI := hide (HI.out.step hb); have HN := hide (Rd.of_own ho); clear ho hb))
            clear j0 j1 jl HK p0 pl t0 t1 l0
            obtain ⟨l0, hlb3⟩ := rd_int HI.out.r1 hltL
            rw [HV.out] at l0
            have hvt : ¬ v < tk := by omega
            have hNL : NL.length ≤ 9223372036854775807 := by obtain ⟨_, _, _, h1, h2, _⟩ := id HN.out; unfold maxLen at h2; omega
            go_wp2_with fail
            go_loopw [157] (fun j wr => ∃ m : Nat, m ≤ NL.length ∧ j = .int .i64 m ∧ LhI w h (some ⟨b, o, none⟩) pc fs (.slice (some ⟨lb, lo, none⟩) L.length uc1) (.slice (some ⟨ib, io, none⟩) il.length ic) L il wr ∧ Rd wr wr.heap.size (.slice nA NL.length nc) NL.length (icells .i64 NL)) (fun j _ => NL.length - (intOf j).toNat)
            case atStart => exact ⟨0, by omega, rfl, HI.out, HN.out⟩
            case round =>
              obtain ⟨m, hm, rfl, hI5, hn5⟩ := hrel
              clear HI HN l0 hlb3
              by_cases hlt2 : m < NL.length
              case neg =>
                obtain rfl : m = NL.length := by omega
                have HI := hide hI5
                clear hI5 hn5
                go_wp2_with fail
                go_roundw
                case rel => exact ⟨k + 1, hlt, by go_num, HI.out⟩
                case measure => simp [intOf]; omega
              case pos =>
                obtain ⟨nb, no, rfl, hnb, hnc⟩ := hn5.at_ (j := m) (by rw [icells_length]; exact hlt2)
                rw [icells_get _ _ hlt2] at hnc
                obtain ⟨kk, ekk, hkk, hLk⟩ := Q7.out NL[m] (List.getElem_mem hlt2)
                rw [ekk] at hnc
                obtain ⟨s1, sl⟩ := rd_int hI5.r1 hkk
                rw [hLk] at s1
                obtain ⟨s2, _⟩ := rd_int hI5.r1 hltL
                rw [HV.out] at s2
                have HI := hide hI5; have HN := hide hn5
                have hmI : (m : Int) < (NL.length : Int) := by omega
                have hm0 : (0 : Int) ≤ (m : Int) := by omega
                have hkkI : (kk : Int) < (L.length : Int) := by omega
                have hkk0 : (0 : Int) ≤ (kk : Int) := by omega
                clear hI5 hn5 ekk hLk
                go_upto_region 22 with fail
                have hs1 : IntKind.i64.wrap (v - tk) = v - tk := IntWalk.i64_in _ (by omega)
                have hs2 : IntKind.i64.wrap (v - tk + pt) = v - tk + pt := IntWalk.i64_in _ (by omega)
                go_quiet (fail)
                clear hs1 hs2
                go_wp2_with fail
                go_roundw
                case rel => exact ⟨m + 1, by omega, by go_num, HI.out.drewN _, HN.out.drewN _⟩
                case measure => simp [intOf]; omega
    case rest => as_aux_lemma =>
      have Hb := hide hcut
      clear hcut HQ Hfa
      go_upto_region 27 with (go_at_call 15; refine (D2.out _ Hb.out).mono ?_; rintro e w20 ⟨dA, dc, ds, o1, m1, rfl, hr, hz, hb⟩; have hq1 := (Below.refl w20.heap.size w20).alloc (Nat.le_refl _) (.cells #[.slice dA ds.length dc] 26); have hq2 := (Below.refl (w20.alloc (.cells #[.slice dA ds.length dc] 26)).heap.size (w20.alloc (.cells #[.slice dA ds.length dc] 26))).alloc (Nat.le_refl _) (.cells #[.int .i64 o1, .int .i64 m1] 41); have hb2 := Hb.out.trans (hb.mono Hb.out.size); have hb3 := hb2.trans (hq1.mono hb2.size); have HW := hide (show LhS w w20.heap.size dA dc ds ((w20.alloc (.cells #[.slice dA ds.length dc] 26)).alloc (.cells #[.int .i64 o1, .int .i64 m1] 41)) from ⟨hb3.trans (hq2.mono hb3.size), (Bk.new w20 26 #[.slice dA ds.length dc]).below hq2, (hr.here RCode_stable hq1).here RCode_stable hq2⟩); have HJ := hide (show Bk ((w20.alloc (.cells #[.slice dA ds.length dc] 26)).alloc (.cells #[.int .i64 o1, .int .i64 m1] 41)) (w20.heap.size + 1) 41 #[.int .i64 o1, .int .i64 m1] from (by have hk := Bk.new (w20.alloc (.cells #[.slice dA ds.length dc] 26)) 41 #[.int .i64 o1, .int .i64 m1]; rw [World.size_alloc] at hk; exact hk)); clear hr hb hq1 hq2 hb2 hb3)
      clear Hb
      have a1 := fun W (h : RImage W 0 W.heap.size [.slice dA ds.length dc] ⟨ds⟩) => impl_TakesPuts _ ⟨ds⟩ o1 m1 W h
      have a2 := fun W (h : RImage W 0 W.heap.size [.slice dA ds.length dc] ⟨ds⟩) => spec_TakesPuts _ ⟨ds⟩ o1 m1 W h
      dsimp only at a1 a2
      generalize tpF ds ⟨o1, m1⟩ = T at *
      obtain ⟨T1, T2, T3⟩ := T
      dsimp only at a1 a2
      have F1 := Lib.hid a1; have F2 := Lib.hid a2
      have y0 := HW.out.p.cell 0; have yl := HW.out.p.lt; have j0 := HJ.out.cell 0; have j1 := HJ.out.cell 1; have jl := HJ.out.lt
      clear a1 a2
      go_upto_region 29 with (first
        | (go_at_call 13; refine (F1.out _ HW.out.rp).mono ?_; rintro e w21 ⟨rfl, hb⟩; have HW := hide (HW.out.step hb); have HJ := hide (HJ.out.below hb); have y0 := HW.out.p.cell 0; have yl := HW.out.p.lt; have j0 := HJ.out.cell 0; have j1 := HJ.out.cell 1; have jl := HJ.out.lt; clear hb)
        | (go_at_call 16; refine (F2.out _ HW.out.rp).mono ?_; rintro e w22 ⟨rfl, hb⟩; have Hb := hide (HW.out.b.trans (hb.mono HW.out.b.size)); clear hb))
      clear y0 yl j0 j1 jl HW HJ F1 F2
      go_upto_region 30 with (go_at_call 17; refine (D3.out _ Hb.out).mono ?_; rintro e w23 ⟨o2, m2, at2, rfl, hb⟩; have hb2 := Hb.out.trans (hb.mono Hb.out.size); have HK := hide (Bk.new w23 41 #[.int .i64 o2, .int .i64 m2]); have Hb := hide (hb2.alloc hb2.size (.cells #[.int .i64 o2, .int .i64 m2] 41)); clear hb hb2)
      have a1 := fun W => impl_NextOf o2 m2 at2 W
      have a2 := fun W => spec_NextOf o2 m2 at2 W
      generalize nxR ⟨o2, m2⟩ at2 = NL at *
      generalize okN ⟨o2, m2⟩ at2 = b2 at *
      have F1 := Lib.hid a1; have F2 := Lib.hid a2
      have j0 := HK.out.cell 0; have j1 := HK.out.cell 1; have jl := HK.out.lt
      clear a1 a2
      go_upto_region 32 with (first
        | (go_at_call 14; refine (F1.out _).mono ?_; rintro e w24 ⟨u4, rfl, ho, hb⟩; obtain ⟨nA, nc, rfl⟩ := own_form ho; have HN1 := hide (Rd.of_own ho); have HK := hide (HK.out.below hb); have Hb := hide (Hb.out.trans (hb.mono Hb.out.size)); have j0 := HK.out.cell 0; have j1 := HK.out.cell 1; have jl := HK.out.lt; clear ho hb)
        | (go_at_call 18; refine (F2.out _).mono ?_; rintro e w25 ⟨u5, rfl, ho, hb⟩; obtain ⟨nB, nd, rfl⟩ := own_form ho; have HN2 := hide (Rd.of_own ho); have HN1 := hide (HN1.out.here hb); have Hb := hide (Hb.out.trans (hb.mono Hb.out.size)); clear ho hb))
      clear j0 j1 jl HK F1 F2
      go_upto_region 33 with (go_at_call 19; refine (D4.out _ Hb.out).mono ?_; rintro e w26 ⟨o3, m3, rfl, hb⟩; have hb2 := Hb.out.trans (hb.mono Hb.out.size); have hq := (Below.refl w26.heap.size w26).alloc (Nat.le_refl _) (.cells #[.int .i64 o3, .int .i64 m3] 41); have HK := hide (Bk.new w26 41 #[.int .i64 o3, .int .i64 m3]); have HN1 := hide ((HN1.out.here hb).here hq); have HN2 := hide ((HN2.out.here hb).here hq); have Hb := hide (hb2.alloc hb2.size (.cells #[.int .i64 o3, .int .i64 m3] 41)); clear hb hb2 hq)
      have a1 := TI.out o3 m3
      have a2 := fun W => spec_InsText o3 m3 W
      generalize isT o3 m3 = S at *
      generalize insOk ⟨o3, m3⟩ = b3 at *
      have F1 := Lib.hid a1; have F2 := Lib.hid a2
      have j0 := HK.out.cell 0; have j1 := HK.out.cell 1; have jl := HK.out.lt
      clear a1 a2 TI
      go_wp2_with (first
        | (go_at_call 20; refine (F1.out _ Hb.out).mono ?_; rintro e w27 ⟨rfl, hb⟩; have HN1 := hide (HN1.out.here hb); have HN2 := hide (HN2.out.here hb); have HK := hide (HK.out.below hb); have Hb := hide (Hb.out.trans (hb.mono Hb.out.size)); have j0 := HK.out.cell 0; have j1 := HK.out.cell 1; have jl := HK.out.lt; clear hb)
        | (go_at_call 21; refine (F2.out _).mono ?_; rintro e w28 ⟨rfl, hb⟩; have HN1 := hide (HN1.out.here hb); have HN2 := hide (HN2.out.here hb); have Hb := hide (Hb.out.trans (hb.mono Hb.out.size)); clear hb)
        | (go_at_call 10; refine (laws_sameInts _ _ NL _ _ _ HN1.out HN2.out).mono ?_; rintro e w29 ⟨rfl, hb⟩; have Hb := hide (Hb.out.trans (hb.mono Hb.out.size)); clear hb))
      all_goals
        go_ret
        first
          | exact ⟨rfl, Hb.out⟩
          | exact ⟨by simp, Hb.out⟩
end Go.Proofs.YtgkjakoagdkpcaaGreatDoor
