
/- The law's own comparison of numbers, and the state of the laws over programs. No condition. -/
import Derived.Test.YtheddnjhkcpmnaaSh
import Derived.Test.YtheddnjhkcpmnaaPg13P
import Derived.Test.YtheddnjhkcpmnaaPg9
import Derived.Test.YtheddnjhkcpmnaaCfTok
import Derived.Test.YtheddnjhkcpmnaaOpen
set_option linter.unusedSimpArgs false
set_option linter.unusedVariables false
set_option maxRecDepth 100000
namespace Go.Proofs.Ytheddnjhkcpmnaa
open Go.RowKit

set_option maxHeartbeats 1600000 in
theorem laws_sameInts (v v2 : Value) (zs : List Int) (w : World) (B B2 : Nat) (hr : Rd w B v zs.length (icells .i64 zs)) (hr2 : Rd w B2 v2 zs.length (icells .i64 zs)) :
    Calls Try.prog 36 #[v, v2] w fun e w' => e = .returned (.bool true) ∧ Below w.heap.size w w' := by
  have hl : zs.length ≤ 9223372036854775807 := by obtain ⟨_, _, _, h1, h2, _⟩ := id hr; unfold maxLen at h2; omega
  obtain ⟨A, c, rfl, _, _, _⟩ := id hr
  obtain ⟨A2, c2, rfl, _, _, _⟩ := id hr2
  have Hr := hide hr; have Hr2 := hide hr2
  clear hr hr2
  go_enter Try.func36, Try.ntmps36
  go_wp2
  go_loopw [13] (fun i wr => ∃ k q : Nat, k ≤ zs.length ∧ i = .int .i64 k ∧ wr = w.drewN q) (fun i _ => zs.length - (intOf i).toNat)
  case atStart => exact ⟨0, 0, by omega, rfl, rfl⟩
  case round =>
    obtain ⟨k, q, hk, rfl, rfl⟩ := hrel
    by_cases hlt : k < zs.length
    · obtain ⟨b, o, rfl, hb, h1⟩ := Hr.out.at_ (j := k) (by rw [icells_length]; exact hlt)
      obtain ⟨b2, o2, rfl, hb2, h2⟩ := Hr2.out.at_ (j := k) (by rw [icells_length]; exact hlt)
      rw [icells_get _ _ hlt] at h1 h2
      generalize zs[k] = z at *
      have hkI : (k : Int) < (zs.length : Int) := by omega
      have hk0 : (0 : Int) ≤ (k : Int) := by omega
      go_wp2
      go_quiet (fail)
      go_wp2
      go_roundw
      case rel => exact ⟨k + 1, _, by omega, by go_num, rfl⟩
      case measure => simp [intOf]; omega
    · have hkI : ¬ (k : Int) < (zs.length : Int) := by omega
      go_wp2
      go_ret
      exact ⟨rfl, below_drewN (Below.refl _ _) _⟩
/-- the program in block h, and what else was there -/
structure LpS (w : World) (h : Nat) (A : Option Addr) (c : Nat) (fs : List FuncM) (W : World) : Prop where
  b : Below w.heap.size w W
  p : Bk W h 45 #[.slice A fs.length c]
  r : RL RFunc 4 W 0 W.heap.size (.slice A fs.length c) fs
/-- four lists besides -/
structure LqS (w : World) (h : Nat) (A : Option Addr) (c : Nat) (fs : List FuncM) (v1 v2 v3 v4 : Value) (l1 l2 : List Int) (W : World) : Prop where
  s : LpS w h A c fs W
  r1 : Rd W W.heap.size v1 l1.length (icells .i64 l1)
  r2 : Rd W W.heap.size v2 l1.length (icells .i64 l1)
  r3 : Rd W W.heap.size v3 l2.length (icells .i64 l2)
  r4 : Rd W W.heap.size v4 l2.length (icells .i64 l2)
section
variable {w : World} {h : Nat} {A : Option Addr} {c : Nat} {fs : List FuncM} {v1 v2 v3 v4 : Value} {l1 l2 : List Int} {W W' : World}
theorem LpS.step (H : LpS w h A c fs W) (hb : Below W.heap.size W W') : LpS w h A c fs W' := ⟨H.b.trans (hb.mono H.b.size), H.p.below hb, H.r.here RFunc_stable hb⟩
theorem LpS.drw (H : LpS w h A c fs W) : LpS w h A c fs W.drew := H.step (Below.refl _ _).drew
theorem LpS.rp (H : LpS w h A c fs W) : RProg W 0 W.heap.size [.slice A fs.length c] ⟨fs⟩ := ⟨_, rfl, H.r⟩
theorem LqS.step (H : LqS w h A c fs v1 v2 v3 v4 l1 l2 W) (hb : Below W.heap.size W W') : LqS w h A c fs v1 v2 v3 v4 l1 l2 W' := ⟨H.s.step hb, H.r1.here hb, H.r2.here hb, H.r3.here hb, H.r4.here hb⟩
theorem LqS.drw (H : LqS w h A c fs v1 v2 v3 v4 l1 l2 W) : LqS w h A c fs v1 v2 v3 v4 l1 l2 W.drew := H.step (Below.refl _ _).drew
theorem LqS.hold (H : LqS w h A c fs v1 v2 v3 v4 l1 l2 W) : W.cell? ⟨h, 0, none⟩ = some (.slice A fs.length c) ∧ h < W.heap.size := ⟨H.s.p.cell 0, H.s.p.lt⟩
end
/-- a function of the program, as it is read -/
structure FrS (b B : Nat) (P V : Int) (u v : Value) (f : FuncM) (W : World) : Prop where
  lt : b < W.heap.size
  c0 : W.cell? ⟨b, B, none⟩ = some (.int .i64 P)
  c1 : W.cell? ⟨b, B + 1, none⟩ = some (.int .i64 V)
  c2 : W.cell? ⟨b, B + 2, none⟩ = some u
  c3 : W.cell? ⟨b, B + 3, none⟩ = some v
  r : RFunc W 0 W.heap.size [.int .i64 P, .int .i64 V, u, v] f
theorem FrS.step {b B : Nat} {P V : Int} {u v : Value} {f : FuncM} {W W' : World} (H : FrS b B P V u v f W) (hb : Below W.heap.size W W') : FrS b B P V u v f W' := by
  have hk : ∀ {i : Nat} {y : Value}, W.cell? ⟨b, i, none⟩ = some y → W'.cell? ⟨b, i, none⟩ = some y := fun h => (World.cell?_of_block (hb.block b H.lt)).trans h
  exact ⟨Nat.lt_of_lt_of_le H.lt hb.size, hk H.c0, hk H.c1, hk H.c2, hk H.c3, RFunc_stable.here H.r hb⟩
theorem LpS.fn {w W : World} {h n c : Nat} {A : Option Addr} {fs : List FuncM} (H : LpS w h A c fs W) (hn : n < fs.length) : ∃ b o uA uc vA vc, A = some ⟨b, o, none⟩ ∧ FrS b (o + n * 4) fs[n].qParams fs[n].qVars (.slice uA fs[n].qBody.length uc) (.slice vA fs[n].qStmts.length vc) fs[n] W := by
  obtain ⟨b, o, v2, v3, e, hb, k0, k1, k2, k3, hr⟩ := RFunc_at H.r hn
  obtain ⟨u, v, e2, h2, h3⟩ := id hr
  obtain ⟨uA, uc, rfl⟩ := h2.form
  obtain ⟨vA, vc, rfl⟩ := h3.form
  simp only [List.cons.injEq, and_true, true_and] at e2
  obtain ⟨rfl, rfl⟩ := e2
  exact ⟨b, o, uA, uc, vA, vc, e, hb, k0, k1, k2, k3, hr⟩
end Go.Proofs.Ytheddnjhkcpmnaa
set_option linter.unusedSimpArgs false
set_option linter.unusedVariables false
set_option maxRecDepth 100000
namespace Go.Proofs.Ytheddnjhkcpmnaa
open Go.RowKit Go.WideShapes Go.ChangeShapes

set_option maxHeartbeats 6400000 in
theorem law_FnProgs (w : World) (v1 : Value) (i1 : IsU8s w v1) (v2 : Value) (i2 : IsU8s w v2) :
    Calls Try.prog 5 #[v1, v2] w fun e w' => e = .returned (.bool true) ∧ Below w.heap.size w w' := by
  obtain ⟨z1, hr1, hz1⟩ := i1
  obtain ⟨z2, hr2, hz2⟩ := i2
  have hy1 : ∀ z ∈ z1, 0 ≤ z ∧ z ≤ 255 := fun z h => bd_u8 (hz1 z h)
  have hy2 : ∀ z ∈ z2, 0 ≤ z ∧ z ≤ 255 := fun z h => bd_u8 (hz2 z h)
  have hd1 := fun W (hW : Below w.heap.size w W) => spec_DrawCallsOf _ z1 W (hr1.here hW) hy1
  have hd2 := fun W (hW : Below w.heap.size w W) => spec_DrawSitesOf _ z2 W (hr2.here hW) hy2
  obtain ⟨A1, c1, rfl, p1, p2, _⟩ := id hr1
  obtain ⟨A2, c2, rfl, p3, p4, _⟩ := id hr2
  have hB := fun W => laws_big A1 A2 c1 c2 z1.length z2.length (by unfold maxLen at p2; omega) (by unfold maxLen at p4; omega) W
  have D1 := Lib.hid hd1; have D2 := Lib.hid hd2
  clear hr1 hr2 hz1 hz2 hy1 hy2 hd1 hd2 p1 p2 p3 p4
  cases hbig : bigB z1.length z2.length
  case true =>
    simp only [hbig] at hB
    have HB := Lib.hid hB
    clear hB hbig D1 D2
    go_enter Try.func5, Try.ntmps5
    go_wp2_with (go_at_call 8; refine (HB.out _).mono ?_; rintro e w1 ⟨rfl, rfl⟩)
    go_ret
    exact ⟨rfl, Below.refl _ _⟩
  simp only [hbig] at hB
  have HB := Lib.hid hB; have Hb := hide (Below.refl w.heap.size w)
  clear hB hbig
  go_enter Try.func5, Try.ntmps5
  go_upto_region 4 with (first
    | (go_at_call 8; refine (HB.out _).mono ?_; rintro e w0 ⟨rfl, h0⟩; rw [h0]; clear h0)
    | (go_at_call 29; refine (D1.out _ Hb.out).mono ?_; rintro e w1 ⟨pA, pc, fs, fn, rfl, hr, hsz, hb⟩; have HL := hide (show LpS w w1.heap.size pA pc fs (w1.alloc (.cells #[.slice pA fs.length pc] 45)) from ⟨hb.alloc hb.size _, Bk.new _ _ _, hr.here RFunc_stable ((Below.refl _ _).alloc (Nat.le_refl _) _)⟩); clear hr hb))
  have hzp : szProgN ⟨fs⟩ ≤ 1048576 := by show szFuncsN fs ≤ _; omega
  have e1 := fun W (h : RProg W 0 W.heap.size [.slice pA fs.length pc] ⟨fs⟩) => impl_call_CallsOf _ ⟨fs⟩ fn W h hzp
  have e2 := fun W (h : RProg W 0 W.heap.size [.slice pA fs.length pc] ⟨fs⟩) => spec_call_CallsOf _ ⟨fs⟩ fn W h hzp
  have e3 := fun W (h : RProg W 0 W.heap.size [.slice pA fs.length pc] ⟨fs⟩) => impl_MayRecover _ ⟨fs⟩ fn W h hzp
  have e4 := fun W (h : RProg W 0 W.heap.size [.slice pA fs.length pc] ⟨fs⟩) => spec_MayRecover _ ⟨fs⟩ fn W h hzp
  have e5 := fun W (h : RProg W 0 W.heap.size [.slice pA fs.length pc] ⟨fs⟩) => impl_call_ParamsOf _ ⟨fs⟩ W h hzp
  have e6 := fun W (h : RProg W 0 W.heap.size [.slice pA fs.length pc] ⟨fs⟩) => spec_call_ParamsOf _ ⟨fs⟩ W h hzp
  have e7 := fun W (h : RProg W 0 W.heap.size [.slice pA fs.length pc] ⟨fs⟩) => impl_GoodProg' _ ⟨fs⟩ W h hzp
  have e8 := fun W (h : RProg W 0 W.heap.size [.slice pA fs.length pc] ⟨fs⟩) => spec_GoodProg _ ⟨fs⟩ W h hzp
  have hfn : okF fs fn = true → ∃ n : Nat, ∃ hn : n < fs.length, fn = (n : Int) ∧ aloneB fs[n] = true ∧ ordR fs[n] = intL (List.range fs[n].qStmts.length) ∧ (sitR fs[n]).length ≤ 4 := okF_fn
  dsimp only at e1 e2 e3 e4 e5 e6 e7 e8
  generalize calR fs fn = l1 at *
  generalize mayR fs fn = m1 at *
  generalize parR fs = l2 at *
  generalize hb2 : progS fs = b2 at *
  generalize hb1 : okF fs fn = b1 at *
  have E1 := Lib.hid e1; have E2 := Lib.hid e2; have E3 := Lib.hid e3; have E4 := Lib.hid e4; have E5 := Lib.hid e5; have E6 := Lib.hid e6; have E7 := Lib.hid e7; have E8 := Lib.hid e8; have Hfn := Lib.hid hfn
  clear e1 e2 e3 e4 e5 e6 e7 e8 hfn hzp hb1 hb2
  have p0 := HL.out.p.cell 0; have pl := HL.out.p.lt
  go_upto_region 10 with (first
    | (go_at_call 30; refine (E1.out _ HL.out.rp).mono ?_; rintro e w2 ⟨u1, rfl, ho, hb⟩; obtain ⟨uA1, uc1, rfl⟩ := own_form ho; have HL := hide (HL.out.step hb); have HR1 := hide (Rd.of_own ho); have p0 := HL.out.p.cell 0; have pl := HL.out.p.lt; clear ho hb)
    | (go_at_call 31; refine (E2.out _ HL.out.rp).mono ?_; rintro e w3 ⟨u2, rfl, ho, hb⟩; obtain ⟨uA2, uc2, rfl⟩ := own_form ho; have HL := hide (HL.out.step hb); have HR1 := hide (HR1.out.here hb); have HR2 := hide (Rd.of_own ho); have p0 := HL.out.p.cell 0; have pl := HL.out.p.lt; clear ho hb)
    | (go_at_call 32; refine (E3.out _ HL.out.rp).mono ?_; rintro e w4 ⟨rfl, hb⟩; have HL := hide (HL.out.step hb); have HR1 := hide (HR1.out.here hb); have HR2 := hide (HR2.out.here hb); have p0 := HL.out.p.cell 0; have pl := HL.out.p.lt; clear hb)
    | (go_at_call 33; refine (E4.out _ HL.out.rp).mono ?_; rintro e w5 ⟨rfl, hb⟩; have HL := hide (HL.out.step hb); have HR1 := hide (HR1.out.here hb); have HR2 := hide (HR2.out.here hb); have p0 := HL.out.p.cell 0; have pl := HL.out.p.lt; clear hb)
    | (go_at_call 34; refine (E5.out _ HL.out.rp).mono ?_; rintro e w6 ⟨u3, rfl, ho, hb⟩; obtain ⟨uA3, uc3, rfl⟩ := own_form ho; have HL := hide (HL.out.step hb); have HR1 := hide (HR1.out.here hb); have HR2 := hide (HR2.out.here hb); have HR3 := hide (Rd.of_own ho); have p0 := HL.out.p.cell 0; have pl := HL.out.p.lt; clear ho hb)
    | (go_at_call 35; refine (E6.out _ HL.out.rp).mono ?_; rintro e w7 ⟨u4, rfl, ho, hb⟩; obtain ⟨uA4, uc4, rfl⟩ := own_form ho; have HQ := hide (show LqS w w1.heap.size pA pc fs (.slice uA1 l1.length uc1) (.slice uA2 l1.length uc2) (.slice uA3 l2.length uc3) (.slice uA4 l2.length uc4) l1 l2 w7 from ⟨HL.out.step hb, HR1.out.here hb, HR2.out.here hb, HR3.out.here hb, Rd.of_own ho⟩); clear ho hb))
  clear p0 pl
  generalize hh : w1.heap.size = h at *
  clear HL HR1 HR2 HR3 hh
  go_cut [118] (fun t wx => t = .bool false ∧ LpS w h pA pc fs wx)
  case first =>
    have HQ := hide HQ.out.drw
    all_goals
      go_region_held3 (fun w' => w'.cell? ⟨h, 0, none⟩ = some (.slice pA fs.length pc) ∧ h < w'.heap.size) (with_reducible exact HQ.out.hold)
        (first
          | (go_at_call_of 36 (Value.slice uA2 l1.length uc2); refine (laws_sameInts _ _ l1 _ _ _ HQ.out.r1 HQ.out.r2).mono ?_; rintro e w8 ⟨rfl, hb⟩; have HQ := hide (HQ.out.step hb); clear hb)
          | (go_at_call_of 36 (Value.slice uA4 l2.length uc4); refine (laws_sameInts _ _ l2 _ _ _ HQ.out.r3 HQ.out.r4).mono ?_; rintro e w8 ⟨rfl, hb⟩; have HQ := hide (HQ.out.step hb); clear hb)
          | (go_at_call 37; refine (E7.out _ HQ.out.s.rp).mono ?_; rintro e w9 ⟨rfl, hb⟩; have HQ := hide (HQ.out.step hb); clear hb)
          | (go_at_call 38; refine (E8.out _ HQ.out.s.rp).mono ?_; rintro e w10 ⟨rfl, hb⟩; have HQ := hide (HQ.out.step hb); clear hb))
    all_goals
      go_wp2_with fail
      go_meet
      exact ⟨rfl, HQ.out.s⟩
  case rest =>
    obtain ⟨rfl, hs⟩ := hcut
    have HL := hide hs
    clear hs
    go_upto_if 119 with fail
    go_cut [] (fun wx => Below w.heap.size w wx)
    case first =>
      cases b1
      · go_wp2_with fail
        go_meet
        exact HL.out.b
      · obtain ⟨n, hn, rfl, ha, ho, hs4⟩ := Hfn.out rfl
        obtain ⟨b, o, uA, uc, vA, vc, rfl, hfr⟩ := HL.out.fn hn
        have hnI : (n : Int) < (fs.length : Int) := Int.ofNat_lt.2 hn
        have hnI0 : (0 : Int) ≤ (n : Int) := Int.natCast_nonneg n
        have hzf : szFuncN fs[n] ≤ 1048576 := by have := szFuncsL_mem hn; have : szFuncsN fs = fs.length + szFuncsL fs := rfl; omega
        have eo := fun W (h : RFunc W 0 W.heap.size [.int .i64 fs[n].qParams, .int .i64 fs[n].qVars, .slice uA fs[n].qBody.length uc, .slice vA fs[n].qStmts.length vc] fs[n]) => impl_call_OrderOf _ fs[n] W h hzf
        have es := fun W (h : RFunc W 0 W.heap.size [.int .i64 fs[n].qParams, .int .i64 fs[n].qVars, .slice uA fs[n].qBody.length uc, .slice vA fs[n].qStmts.length vc] fs[n]) => impl_call_SitesOf _ fs[n] W h hzf
        simp only [ha, ho] at eo es
        simp only [intL_length, List.length_range] at eo
        generalize sitR fs[n] = sl at *
        generalize fs[n] = f at *
        have hS : f.qStmts.length ≤ 1048576 := by have e : szFuncN f = f.qBody.length + (f.qStmts.length + szStmtsL f.qStmts) := rfl; omega
        have Eo := Lib.hid eo; have Es := Lib.hid es; have HF := hide hfr
        have p0 := HL.out.p.cell 0; have pl := HL.out.p.lt
        have k0 := hfr.c0; have k1 := hfr.c1; have k2 := hfr.c2; have k3 := hfr.c3; have kl := hfr.lt
        clear eo es hfr Hfn
        go_upto_region 15 with (first
          | (go_at_call 39; refine (Eo.out _ HF.out.r).mono ?_; rintro e w20 ⟨u1, rfl, ho, hb⟩; obtain ⟨oA, oc, rfl⟩ := own_form ho; have HL := hide (HL.out.step hb); have HF := hide (HF.out.step hb); have HO := hide (Rd.of_own ho); have p0 := HL.out.p.cell 0; have pl := HL.out.p.lt; have k0 := HF.out.c0; have k1 := HF.out.c1; have k2 := HF.out.c2; have k3 := HF.out.c3; have kl := HF.out.lt; clear ho hb)
          | (go_at_call 40; refine (Es.out _ HF.out.r).mono ?_; rintro e w21 ⟨u2, rfl, ho, hb⟩; obtain ⟨sA, sc, rfl⟩ := own_form ho; have HL := hide (HL.out.step hb); have HF := hide (HF.out.step hb); have HO := hide (HO.out.here hb); have p0 := HL.out.p.cell 0; have pl := HL.out.p.lt; have k0 := HF.out.c0; have k1 := HF.out.c1; have k2 := HF.out.c2; have k3 := HF.out.c3; have kl := HF.out.lt; clear ho hb))
        have hslI : ¬ (4 : Int) < (sl.length : Int) := by omega
        go_wp2_with fail
        go_loopw [163] (fun i wr => ∃ k : Nat, k ≤ f.qStmts.length ∧ i = .int .i64 k ∧ Below w.heap.size w wr ∧ Rd wr wr.heap.size (.slice oA f.qStmts.length oc) f.qStmts.length (icells .i64 (intL (List.range f.qStmts.length)))) (fun i _ => f.qStmts.length - (intOf i).toNat)
        case atStart => exact ⟨0, by omega, rfl, HL.out.b, HO.out⟩
        case round =>
          obtain ⟨k, hk, rfl, hb, hr⟩ := hrel
          have hlen : (intL (List.range f.qStmts.length)).length = f.qStmts.length := by rw [intL_length, List.length_range]
          by_cases hlt : k < f.qStmts.length
          · have hlt2 : k < (intL (List.range f.qStmts.length)).length := by omega
            obtain ⟨b3, o3, rfl, hb3, hc⟩ := hr.at_ (j := k) (by rw [icells_length]; exact hlt2)
            rw [icells_get _ _ hlt2, intL_range_get rfl hlt2] at hc
            have hkI : (k : Int) < (f.qStmts.length : Int) := by omega
            have hk0 : (0 : Int) ≤ (k : Int) := by omega
            have Hr := hide hr; have Hb3 := hide hb
            clear hr hb
            go_wp2_with fail
            go_roundw
            case rel => exact ⟨k + 1, hlt, by go_num, Hb3.out, Hr.out⟩
            case measure => simp [intOf]; omega
          · have hkI : ¬ (k : Int) < (f.qStmts.length : Int) := by omega
            have Hb3 := hide hb
            clear hr hb
            go_wp2_with fail
            go_meet
            exact Hb3.out
    case rest =>
      have Hb := hide hcut
      clear hcut HL
      go_upto_region 24 with (go_at_call 41; refine (D2.out _ Hb.out).mono ?_; rintro e w30 ⟨P, V, bv, sv, m, rfl, hr, hsz3, hb⟩; obtain ⟨_, _, e2, g2, g3⟩ := id hr; obtain ⟨bA, bc, rfl⟩ := g2.form; obtain ⟨sA, sc, rfl⟩ := g3.form; simp only [List.cons.injEq, Value.int.injEq, and_true, true_and] at e2; obtain ⟨rfl, rfl, rfl, rfl⟩ := e2; have Hr := hide (RFunc_stable.here hr ((Below.refl _ _).alloc (Nat.le_refl _) (.cells #[.int .i64 m.qParams, .int .i64 m.qVars, .slice bA m.qBody.length bc, .slice sA m.qStmts.length sc] 59))); have Hk := hide (Bk.new w30 59 #[.int .i64 m.qParams, .int .i64 m.qVars, .slice bA m.qBody.length bc, .slice sA m.qStmts.length sc]); have Hb := hide ((Hb.out.trans (hb.mono Hb.out.size)).alloc (Nat.le_trans Hb.out.size hb.size) (.cells #[.int .i64 m.qParams, .int .i64 m.qVars, .slice bA m.qBody.length bc, .slice sA m.qStmts.length sc] 59)); clear hr hb g2 g3)
      have hzf : szFuncN m ≤ 1048576 := by omega
      have a1 := fun W (h : RFunc W 0 W.heap.size [.int .i64 m.qParams, .int .i64 m.qVars, .slice bA m.qBody.length bc, .slice sA m.qStmts.length sc] m) => impl_call_SitesOf _ m W h hzf
      have a2 := fun W (h : RFunc W 0 W.heap.size [.int .i64 m.qParams, .int .i64 m.qVars, .slice bA m.qBody.length bc, .slice sA m.qStmts.length sc] m) => spec_call_SitesOf _ m W h hzf
      have a3 := fun W (h : RFunc W 0 W.heap.size [.int .i64 m.qParams, .int .i64 m.qVars, .slice bA m.qBody.length bc, .slice sA m.qStmts.length sc] m) => impl_call_OrderOf _ m W h hzf
      have a4 := fun W (h : RFunc W 0 W.heap.size [.int .i64 m.qParams, .int .i64 m.qVars, .slice bA m.qBody.length bc, .slice sA m.qStmts.length sc] m) => spec_call_OrderOf _ m W h hzf
      generalize sitR m = l5 at *
      generalize ordR m = l6 at *
      generalize aloneB m = b6 at *
      have F1 := Lib.hid a1; have F2 := Lib.hid a2; have F3 := Lib.hid a3; have F4 := Lib.hid a4
      have k0 := Hk.out.cell 0; have k1 := Hk.out.cell 1; have k2 := Hk.out.cell 2; have k3 := Hk.out.cell 3; have kl := Hk.out.lt
      clear a1 a2 a3 a4
      go_upto_region 28 with (first
        | (go_at_call 40; refine (F1.out _ Hr.out).mono ?_; rintro e w31 ⟨u5, rfl, ho, hb⟩; obtain ⟨uA5, uc5, rfl⟩ := own_form ho; have HR5 := hide (Rd.of_own ho); have Hk := hide (Hk.out.below hb); have Hr := hide (RFunc_stable.here Hr.out hb); have Hb := hide (Hb.out.trans (hb.mono Hb.out.size)); have k0 := Hk.out.cell 0; have k1 := Hk.out.cell 1; have k2 := Hk.out.cell 2; have k3 := Hk.out.cell 3; have kl := Hk.out.lt; clear ho hb)
        | (go_at_call 42; refine (F2.out _ Hr.out).mono ?_; rintro e w32 ⟨u6, rfl, ho, hb⟩; obtain ⟨uA6, uc6, rfl⟩ := own_form ho; have HR5 := hide (HR5.out.here hb); have HR6 := hide (Rd.of_own ho); have Hk := hide (Hk.out.below hb); have Hr := hide (RFunc_stable.here Hr.out hb); have Hb := hide (Hb.out.trans (hb.mono Hb.out.size)); have k0 := Hk.out.cell 0; have k1 := Hk.out.cell 1; have k2 := Hk.out.cell 2; have k3 := Hk.out.cell 3; have kl := Hk.out.lt; clear ho hb)
        | (go_at_call 39; refine (F3.out _ Hr.out).mono ?_; rintro e w33 ⟨u7, rfl, ho, hb⟩; obtain ⟨uA7, uc7, rfl⟩ := own_form ho; have HR5 := hide (HR5.out.here hb); have HR6 := hide (HR6.out.here hb); have HR7 := hide (Rd.of_own ho); have Hk := hide (Hk.out.below hb); have Hr := hide (RFunc_stable.here Hr.out hb); have Hb := hide (Hb.out.trans (hb.mono Hb.out.size)); have k0 := Hk.out.cell 0; have k1 := Hk.out.cell 1; have k2 := Hk.out.cell 2; have k3 := Hk.out.cell 3; have kl := Hk.out.lt; clear ho hb)
        | (go_at_call 43; refine (F4.out _ Hr.out).mono ?_; rintro e w34 ⟨u8, rfl, ho, hb⟩; obtain ⟨uA8, uc8, rfl⟩ := own_form ho; have HR5 := hide (HR5.out.here hb); have HR6 := hide (HR6.out.here hb); have HR7 := hide (HR7.out.here hb); have HR8 := hide (Rd.of_own ho); have Hk := hide (Hk.out.below hb); have Hr := hide (RFunc_stable.here Hr.out hb); have Hb := hide (Hb.out.trans (hb.mono Hb.out.size)); have k0 := Hk.out.cell 0; have k1 := Hk.out.cell 1; have k2 := Hk.out.cell 2; have k3 := Hk.out.cell 3; have kl := Hk.out.lt; clear ho hb))
      clear k0 k1 k2 k3 kl
      go_wp2_with (first
        | (go_at_call_of 36 (Value.slice uA6 l5.length uc6); refine (laws_sameInts _ _ l5 _ _ _ HR5.out HR6.out).mono ?_; rintro e w35 ⟨rfl, hb⟩; have HR7 := hide (HR7.out.here hb); have HR8 := hide (HR8.out.here hb); have Hb := hide (Hb.out.trans (hb.mono Hb.out.size)); clear hb)
        | (go_at_call_of 36 (Value.slice uA8 l6.length uc8); refine (laws_sameInts _ _ l6 _ _ _ HR7.out HR8.out).mono ?_; rintro e w36 ⟨rfl, hb⟩; have Hb := hide (Hb.out.trans (hb.mono Hb.out.size)); clear hb))
      go_ret
      exact ⟨rfl, Hb.out⟩
end Go.Proofs.Ytheddnjhkcpmnaa
