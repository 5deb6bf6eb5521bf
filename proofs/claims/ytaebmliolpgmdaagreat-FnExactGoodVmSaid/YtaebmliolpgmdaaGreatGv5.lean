
/- l8Good: what the Go text returns. No condition. -/
import Derived.Test.YtaebmliolpgmdaaGreatGv3
import Derived.Test.YtaebmliolpgmdaaGreatGv4
import Derived.Deep.RegionHeld3
set_option linter.unusedSimpArgs false
set_option linter.unusedVariables false
set_option maxRecDepth 100000
namespace Go.Proofs.YtaebmliolpgmdaaGreat
open Go.RowKit Go.Shelf

def lstI (a b : Int) : Int := if a < b then a else b
theorem spec_l1LeastV (a b : Int) (w : World) :
    Calls Tryz.prog 65 #[.int .i64 a, .int .i64 b] w fun e w' => e = .returned (.int .i64 (lstI a b)) ∧ w' = w := by
  by_cases h : a < b
  · have e : lstI a b = a := if_pos h
    rw [e]; clear e
    go_enter Tryz.func65, Tryz.ntmps65
    go_wp2
    go_ret
    exact ⟨rfl, rfl⟩
  · have e : lstI a b = b := if_neg h
    rw [e]; clear e
    go_enter Tryz.func65, Tryz.ntmps65
    go_wp2
    go_ret
    exact ⟨rfl, rfl⟩
theorem spec_frame (xs fs us : List Value) (x : ImageM) (f a : FrameM) (last : Bool) (w : World) (hx : RImage w 0 w.heap.size xs x) (hf : RFrame w 0 w.heap.size fs f) (ha : RFrame w 0 w.heap.size us a) (hs : sizedB x.qCodes = true) (hall : ∀ c ∈ x.qCodes, codeN x.qCodes c = 0) :
    Calls Tryz.prog 64 #[.agg xs.toArray, .agg fs.toArray, .agg us.toArray, .bool last] w fun e w' => e = .returned (.bool (frOk x.qCodes f (if last then none else some a))) ∧ Below w.heap.size w w' := by
  unfold frOk
  cases hb : frB x.qCodes f
  · exact spec_frame_no xs fs us x f a last w hx hf ha hb
  · exact spec_frame_yes xs fs us x f a last w hx hf ha hs hall hb
theorem RFrame_lit {w : World} {hi c i : Nat} {A : Option Addr} {l : List FrameM} (h : RL RFrame 11 w 0 hi (.slice A l.length c) l) (hl : i < l.length) :
    ∃ (b o : Nat) (P3 : Option Addr) (d3 : Nat) (P4 : Option Addr) (d4 : Nat) (P5 : Option Addr) (d5 : Nat), A = some ⟨b, o, none⟩ ∧ b < hi ∧ (∀ (k : Nat) (u : Value), #[.int .i64 l[i].qId, .int .i64 l[i].qFn, .int .i64 l[i].qAt, .slice P3 l[i].qPile.length d3, .slice P4 l[i].qVars.length d4, .slice P5 l[i].qFlags.length d5, .int .i64 l[i].qResult, .int .i64 l[i].qMode, .int .i64 l[i].qValue, .int .i64 l[i].qBase, .bool l[i].qOff][k]? = some u → w.cell? ⟨b, o + i * 11 + k, none⟩ = some u) ∧ RFrame w 0 hi [.int .i64 l[i].qId, .int .i64 l[i].qFn, .int .i64 l[i].qAt, .slice P3 l[i].qPile.length d3, .slice P4 l[i].qVars.length d4, .slice P5 l[i].qFlags.length d5, .int .i64 l[i].qResult, .int .i64 l[i].qMode, .int .i64 l[i].qValue, .int .i64 l[i].qBase, .bool l[i].qOff] l[i] := by
  obtain ⟨b, o, v3, v4, v5, hA, hb, e0, e1, e2, e3, e4, e5, e6, e7, e8, e9, e10, hx⟩ := RFrame_at h hl
  have hx' := hx
  obtain ⟨_, _, _, ey, x3, x4, x5⟩ := hx
  cases ey
  obtain ⟨P3, d3, rfl⟩ := x3.form
  obtain ⟨P4, d4, rfl⟩ := x4.form
  obtain ⟨P5, d5, rfl⟩ := x5.form
  refine ⟨b, o, P3, d3, P4, d4, P5, d5, hA, hb, fun k u hu => ?_, hx'⟩
  match k, hu with
  | 0, hu => simp at hu; subst hu; exact e0
  | 1, hu => simp at hu; subst hu; exact e1
  | 2, hu => simp at hu; subst hu; exact e2
  | 3, hu => simp at hu; subst hu; exact e3
  | 4, hu => simp at hu; subst hu; exact e4
  | 5, hu => simp at hu; subst hu; exact e5
  | 6, hu => simp at hu; subst hu; exact e6
  | 7, hu => simp at hu; subst hu; exact e7
  | 8, hu => simp at hu; subst hu; exact e8
  | 9, hu => simp at hu; subst hu; exact e9
  | 10, hu => simp at hu; subst hu; exact e10
  | k + 11, hu => simp at hu
theorem eleven {w : World} {b o : Nat} {a0 a1 a2 a3 a4 a5 a6 a7 a8 a9 a10 : Value} (h : ∀ (k : Nat) (u : Value), #[a0, a1, a2, a3, a4, a5, a6, a7, a8, a9, a10][k]? = some u → w.cell? ⟨b, o + k, none⟩ = some u) :
    w.cell? ⟨b, o, none⟩ = some a0 ∧ w.cell? ⟨b, o + 1, none⟩ = some a1 ∧ w.cell? ⟨b, o + 2, none⟩ = some a2 ∧ w.cell? ⟨b, o + 3, none⟩ = some a3 ∧ w.cell? ⟨b, o + 4, none⟩ = some a4 ∧ w.cell? ⟨b, o + 5, none⟩ = some a5 ∧ w.cell? ⟨b, o + 6, none⟩ = some a6 ∧ w.cell? ⟨b, o + 7, none⟩ = some a7 ∧ w.cell? ⟨b, o + 8, none⟩ = some a8 ∧ w.cell? ⟨b, o + 9, none⟩ = some a9 ∧ w.cell? ⟨b, o + 10, none⟩ = some a10 :=
  ⟨h 0 _ rfl, h 1 _ rfl, h 2 _ rfl, h 3 _ rfl, h 4 _ rfl, h 5 _ rfl, h 6 _ rfl, h 7 _ rfl, h 8 _ rfl, h 9 _ rfl, h 10 _ rfl⟩
theorem cells_below {w w' : World} {b o B : Nat} {a : Array Value} (h : ∀ (k : Nat) (u : Value), a[k]? = some u → w.cell? ⟨b, o + k, none⟩ = some u) (hb : Below B w w') (hB : b < B) : ∀ (k : Nat) (u : Value), a[k]? = some u → w'.cell? ⟨b, o + k, none⟩ = some u :=
  fun k u hu => (hb.cell (p := ⟨b, o + k, none⟩) hB).trans (h k u hu)
theorem cells_bk {w : World} {g : Nat} {t : TypeId} {a : Array Value} (h : Bk w g t a) : ∀ (k : Nat) (u : Value), a[k]? = some u → w.cell? ⟨g, 0 + k, none⟩ = some u := fun k u hu => by rw [Nat.zero_add, h.cell k]; exact hu
theorem frame0 {w : World} {hi c : Nat} {A : Option Addr} {l : List FrameM} (h : RL RFrame 11 w 0 hi (.slice A l.length c) l) (hl : 0 < l.length) : ∃ b o, A = some ⟨b, o, none⟩ ∧ b < hi ∧ w.cell? ⟨b, o + 10, none⟩ = some (.bool (offH l)) := by
  obtain ⟨b, o, P3, d3, P4, d4, P5, d5, hA, hb, hc, _⟩ := RFrame_lit h hl
  have := hc 10 _ rfl
  rw [Nat.zero_mul, Nat.add_zero] at this
  exact ⟨b, o, hA, hb, by rw [this, offH_at hl]; rfl⟩
theorem vmB_alt (l : List CodeM) (v : VmM) : ∃ b2 bd : Bool, (vmP v → b2 = false) ∧ (¬ vmP v → b2 = true) ∧ ((¬ vmQ v ∨ offH v.qFrames = true) → bd = true) ∧ (vmQ v → offH v.qFrames = false → bd = false) ∧ (b2 = true → vmB l v = false) ∧ (bd = true → vmB l v = false) ∧ (b2 = false → bd = false → vmB l v = stackB l (v.qFrames.drop 0)) := by
  refine ⟨!@decide (vmP v) (Classical.propDecidable _), @decide (¬ vmQ v ∨ offH v.qFrames = true) (Classical.propDecidable _), fun h => ?_, fun h => ?_, fun h => ?_, fun h g => ?_, fun h => ?_, fun h => ?_, fun h g => ?_⟩
  · rw [@decide_eq_true _ (Classical.propDecidable _) h]; rfl
  · rw [@decide_eq_false _ (Classical.propDecidable _) h]; rfl
  · exact @decide_eq_true _ (Classical.propDecidable _) h
  · exact @decide_eq_false _ (Classical.propDecidable _) (fun q => q.elim (fun n => n h) (fun n => by rw [g] at n; cases n))
  · have : ¬ vmP v := fun q => by rw [@decide_eq_true _ (Classical.propDecidable _) q] at h; cases h
    exact vmB_no (fun q => this q.1)
  · rcases @of_decide_eq_true _ (Classical.propDecidable _) h with q | q
    · exact vmB_no (fun r => q r.2)
    · exact vmB_off q
  · have h1 : vmP v := Classical.byContradiction (fun q => by rw [@decide_eq_false _ (Classical.propDecidable _) q] at h; cases h)
    have h2 := @of_decide_eq_false _ (Classical.propDecidable _) g
    have h3 : vmQ v := Classical.byContradiction (fun q => h2 (.inl q))
    exact vmB_yes h1 h3 (by cases e : offH v.qFrames; rfl; exact absurd (.inr e) h2)
structure HoF (w : World) (g : Nat) (ca cv cf : Array Value) (W : World) : Prop where
  b : Below w.heap.size w W
  i : Bk W w.heap.size 31 ca
  v : Bk W (w.heap.size + 1) 47 cv
  f : Bk W g 102 cf
theorem HoF.below {w : World} {g : Nat} {ca cv cf : Array Value} {W W1 : World} (h : HoF w g ca cv cf W) (hb : Below W.heap.size W W1) : HoF w g ca cv cf W1 := ⟨h.b.trans (hb.mono h.b.size), h.i.below hb, h.v.below hb, h.f.below hb⟩
set_option maxHeartbeats 6400000 in
theorem spec_l8Good (xs vs : List Value) (x : ImageM) (v : VmM) (w : World) (hx : RImage w 0 w.heap.size xs x) (hv : RVm w 0 w.heap.size vs v) (hs : sizedB x.qCodes = true) (hall : ∀ c ∈ x.qCodes, codeN x.qCodes c = 0) :
    Calls Tryz.prog 32 #[.agg xs.toArray, .agg vs.toArray] w fun e w' => e = .returned (.bool (vmB x.qCodes v)) ∧ Below w.heap.size w w' := by
  have hx0 := hx
  obtain ⟨v0, rfl, h0⟩ := hx
  obtain ⟨A, c, rfl⟩ := h0.form
  clear h0
  obtain ⟨v0, v1, v6, rfl, k0, k1, k6⟩ := hv
  have hlf := k0.long
  obtain ⟨A0, c0, rfl⟩ := k0.form; obtain ⟨A1, c1, rfl⟩ := k1.form; obtain ⟨A6, c6, rfl⟩ := k6.form
  obtain ⟨b2, bd, hp1, hp0, hd1, hd0, r2, rd, rr⟩ := vmB_alt x.qCodes v
  have hfr := fun W (hW : Below w.heap.size w W) f a last fc ac (hf : RFrame w 0 w.heap.size fc f) (ha : RFrame w 0 w.heap.size ac a) => spec_frame _ fc ac x f a last W (RImage_stable.here hx0 hW) (RFrame_stable.here hf hW) (RFrame_stable.here ha hW) hs hall
  generalize vmB x.qCodes v = R at *
  obtain ⟨fs, tr, us, cd, vl, md, nt⟩ := v
  unfold vmP at hp1 hp0
  unfold vmQ at hd1 hd0
  dsimp only at *
  have K0 := hide k0; clear k0
  generalize hN : fs.length = N at hlf hd1 hd0 ⊢
  have HN := hide hN; clear hN
  have hsC := fun w => spec_l1In cd 0 4 w
  have hsU := fun w => spec_l1In us 0 10 w
  have hsM := fun w => spec_l1In md 0 1000000 w
  have hsV := fun w => spec_l2Bound vl w
  have hsT := fun W (hW : Below w.heap.size w W) => spec_l8Bounds _ tr W _ (k1.here hW).rd
  generalize gC : inB cd 0 4 = bC at *
  generalize gU : inB us 0 10 = bU at *
  generalize gM : inB md 0 1000000 = bM at *
  generalize gV : smallB vl = bV at *
  generalize gT : b32 tr = bT at *
  have hb2 := ((Below.refl w.heap.size w).alloc (Nat.le_refl _) (.cells #[.slice A x.qCodes.length c] 31)).alloc (by simp) (.cells #[.slice A0 N c0, .slice A1 tr.length c1, .int .i64 us, .int .i64 cd, .int .i64 vl, .int .i64 md, .slice A6 nt.length c6] 47)
  have hk1 := (Bk.new w 31 #[.slice A x.qCodes.length c]).alloc (.cells #[.slice A0 N c0, .slice A1 tr.length c1, .int .i64 us, .int .i64 cd, .int .i64 vl, .int .i64 md, .slice A6 nt.length c6] 47)
  have hk2 := Bk.new (w.alloc (.cells #[.slice A x.qCodes.length c] 31)) 47 #[.slice A0 N c0, .slice A1 tr.length c1, .int .i64 us, .int .i64 cd, .int .i64 vl, .int .i64 md, .slice A6 nt.length c6]
  simp only [World.size_alloc] at hk2
  have Hb2 := hide hb2; have Hk1 := hide hk1; have Hk2 := hide hk2
  have HsC := Lib.hid hsC; have HsU := Lib.hid hsU; have HsM := Lib.hid hsM; have HsV := Lib.hid hsV; have HsT := Lib.hid hsT
  have Hp1 := Lib.hid hp1; have Hp0 := Lib.hid hp0; have Hd1 := Lib.hid hd1; have Hd0 := Lib.hid hd0; have R2 := Lib.hid r2; have Rd := Lib.hid rd; have Rr := Lib.hid rr; have Hfr := Lib.hid hfr
  clear hb2 hk1 hk2 hsC hsU hsM hsV hsT hp1 hp0 hd1 hd0 r2 rd rr hfr k1 k6 gC gU gM gV gT hx0 hs hall
  go_enter Tryz.func32, Tryz.ntmps32
  go_upto_region 2 with fail
  go_cut [38] from 11 to 38 (fun r wx => r = .bool b2 ∧ wx = ((w.alloc (.cells #[.slice A x.qCodes.length c] 31)).alloc (.cells #[.slice A0 N c0, .slice A1 tr.length c1, .int .i64 us, .int .i64 cd, .int .i64 vl, .int .i64 md, .slice A6 nt.length c6] 47)))
  case first =>
    cases bC
    · skip
      have HB := hide (Hp0.out (fun q => by have := q.1; cases this))
      go_wp2_with (first
        | (go_at_call_of 42 (Value.int .i64 cd); refine (HsC.out _).mono ?_; rintro e w1 ⟨rfl, rfl⟩))
      all_goals
        go_meet
        case rel => exact ⟨congrArg Value.bool HB.out.symm, rfl⟩
    cases bU
    · skip
      have HB := hide (Hp0.out (fun q => by have := q.2.1; cases this))
      go_wp2_with (first
        | (go_at_call_of 42 (Value.int .i64 cd); refine (HsC.out _).mono ?_; rintro e w1 ⟨rfl, rfl⟩)
        | (go_at_call_of 42 (Value.int .i64 us); refine (HsU.out _).mono ?_; rintro e w1 ⟨rfl, rfl⟩))
      all_goals
        go_meet
        case rel => exact ⟨congrArg Value.bool HB.out.symm, rfl⟩
    cases bM
    · skip
      have HB := hide (Hp0.out (fun q => by have := q.2.2.1; cases this))
      go_wp2_with (first
        | (go_at_call_of 42 (Value.int .i64 cd); refine (HsC.out _).mono ?_; rintro e w1 ⟨rfl, rfl⟩)
        | (go_at_call_of 42 (Value.int .i64 us); refine (HsU.out _).mono ?_; rintro e w1 ⟨rfl, rfl⟩)
        | (go_at_call_of 42 (Value.int .i64 md); refine (HsM.out _).mono ?_; rintro e w1 ⟨rfl, rfl⟩))
      all_goals
        go_meet
        case rel => exact ⟨congrArg Value.bool HB.out.symm, rfl⟩
    cases bV
    · skip
      have HB := hide (Hp0.out (fun q => by have := q.2.2.2.1; cases this))
      go_wp2_with (first
        | (go_at_call_of 42 (Value.int .i64 cd); refine (HsC.out _).mono ?_; rintro e w1 ⟨rfl, rfl⟩)
        | (go_at_call_of 42 (Value.int .i64 us); refine (HsU.out _).mono ?_; rintro e w1 ⟨rfl, rfl⟩)
        | (go_at_call_of 42 (Value.int .i64 md); refine (HsM.out _).mono ?_; rintro e w1 ⟨rfl, rfl⟩)
        | (go_at_call_of 62 (Value.int .i64 vl); refine (HsV.out _).mono ?_; rintro e w1 ⟨rfl, rfl⟩))
      all_goals
        go_meet
        case rel => exact ⟨congrArg Value.bool HB.out.symm, rfl⟩
    cases bT
    · skip
      have HB := hide (Hp0.out (fun q => by have := q.2.2.2.2; cases this))
      go_wp2_with (first
        | (go_at_call_of 42 (Value.int .i64 cd); refine (HsC.out _).mono ?_; rintro e w1 ⟨rfl, rfl⟩)
        | (go_at_call_of 42 (Value.int .i64 us); refine (HsU.out _).mono ?_; rintro e w1 ⟨rfl, rfl⟩)
        | (go_at_call_of 42 (Value.int .i64 md); refine (HsM.out _).mono ?_; rintro e w1 ⟨rfl, rfl⟩)
        | (go_at_call_of 62 (Value.int .i64 vl); refine (HsV.out _).mono ?_; rintro e w1 ⟨rfl, rfl⟩)
        | (go_at_call_of 63 (Value.slice A1 tr.length c1); refine (HsT.out _ (by exact Hb2.out)).mono ?_; rintro e w1 ⟨rfl, rfl⟩))
      all_goals
        go_meet
        case rel => exact ⟨congrArg Value.bool HB.out.symm, rfl⟩
    have HB := hide (Hp1.out ⟨rfl, rfl, rfl, rfl, rfl⟩)
    go_wp2_with (first
      | (go_at_call_of 42 (Value.int .i64 cd); refine (HsC.out _).mono ?_; rintro e w1 ⟨rfl, rfl⟩)
      | (go_at_call_of 42 (Value.int .i64 us); refine (HsU.out _).mono ?_; rintro e w1 ⟨rfl, rfl⟩)
      | (go_at_call_of 42 (Value.int .i64 md); refine (HsM.out _).mono ?_; rintro e w1 ⟨rfl, rfl⟩)
      | (go_at_call_of 62 (Value.int .i64 vl); refine (HsV.out _).mono ?_; rintro e w1 ⟨rfl, rfl⟩)
      | (go_at_call_of 63 (Value.slice A1 tr.length c1); refine (HsT.out _ (by exact Hb2.out)).mono ?_; rintro e w1 ⟨rfl, rfl⟩))
    all_goals
      go_meet
      case rel => exact ⟨congrArg Value.bool HB.out.symm, rfl⟩
  obtain ⟨rfl, rfl⟩ := hcut
  cases b2
  case true =>
    have HR := hide (R2.out rfl)
    go_wp2_with fail
    go_ret
    exact ⟨retB HR.out.symm, Hb2.out⟩
  have Rr' := Lib.hid (Rr.out rfl)
  clear Rr R2 Hp1 Hp0 HsC HsU HsM HsV HsT
  go_upto_region 4 with fail
  go_cut [70] from 39 to 70 (fun r wx => r = .bool bd ∧ wx = ((w.alloc (.cells #[.slice A x.qCodes.length c] 31)).alloc (.cells #[.slice A0 N c0, .slice A1 tr.length c1, .int .i64 us, .int .i64 cd, .int .i64 vl, .int .i64 md, .slice A6 nt.length c6] 47)))
  case first =>
    by_cases hz : N = 0
    · subst hz
      have hz : fs.length = 0 := HN.out
      by_cases c0 : cd = 0
      · have HB := hide (Hd1.out (.inl (fun q => q.1 ⟨c0, rfl⟩)))
        subst c0; clear hz
        go_wp2_with fail
        all_goals
          go_meet
          case rel => exact ⟨congrArg Value.bool HB.out.symm, rfl⟩
      · have HB := hide (Hd0.out ⟨fun q => c0 q.1, fun q => by omega⟩ (by cases fs with | nil => rfl | cons a l => simp at hz))
        have e1 : (cd == 0) = false := beq_eq_false_iff_ne.2 c0
        have e2 : (cd != 0) = true := bne_iff_ne.2 c0
        clear hz
        by_cases c4 : cd = 4
        · subst c4; clear c0 e1 e2
          go_wp2_with fail
          all_goals
            go_meet
            case rel => exact ⟨congrArg Value.bool HB.out.symm, rfl⟩
        · have e3 : (cd != 4) = true := bne_iff_ne.2 c4
          clear c0 c4
          go_wp2_with fail
          all_goals
            go_meet
            case rel => exact ⟨congrArg Value.bool HB.out.symm, rfl⟩
    · have qz : ((N : Int) == 0) = false := beq_eq_false_iff_ne.2 (by omega)
      have qg : (0 : Int) < (N : Int) := by omega
      obtain ⟨b, o, e9, hbB, hoc⟩ := frame0 K0.out (by have := HN.out; omega)
      subst e9
      have ho2 := (Hb2.out.cell (p := ⟨b, o + 10, none⟩) hbB).trans hoc
      have Hof := hide (rfl : offH fs = offH fs)
      have hd1' := fun h : offH fs = true => Hd1.out (.inr h)
      have Hd1' := Lib.hid hd1'; have Hd0' := Lib.hid Hd0.out
      have hz' : ¬ N = 0 := hz
      clear hd1' Hof hoc
      by_cases cb : cd ≠ 0 ∧ cd ≠ 4
      · have HB := hide (Hd1.out (.inl (fun q => q.2 ⟨cb.1, cb.2, by omega⟩)))
        have e1 : (cd == 0) = false := beq_eq_false_iff_ne.2 cb.1
        have e2 : (cd != 0) = true := bne_iff_ne.2 cb.1
        have e3 : (cd != 4) = true := bne_iff_ne.2 cb.2
        clear cb hz hz' Hd1' Hd0'
        go_wp2_with fail
        all_goals
          go_meet
          case rel => exact ⟨congrArg Value.bool HB.out.symm, rfl⟩
      · have hq : ¬ (cd = 0 ∧ N = 0) ∧ ¬ (cd ≠ 0 ∧ cd ≠ 4 ∧ 0 < N) := ⟨fun q => hz q.2, fun q => cb ⟨q.1, q.2.1⟩⟩
        have h1 := fun h : offH fs = false => Hd0'.out hq h
        have H1 := Lib.hid h1
        generalize offH fs = of' at *
        have hc : cd = 0 ∨ cd = 4 := by omega
        clear cb hz hz' hq h1 Hd0'
        cases of'
        · have HB := hide (H1.out rfl)
          rcases hc with rfl | rfl
          all_goals
            go_wp2_with fail
            all_goals
              go_meet
              case rel => exact ⟨congrArg Value.bool HB.out.symm, rfl⟩
        · have HB := hide (Hd1'.out rfl)
          rcases hc with rfl | rfl
          all_goals
            go_wp2_with fail
            all_goals
              go_meet
              case rel => exact ⟨congrArg Value.bool HB.out.symm, rfl⟩
  obtain ⟨rfl, rfl⟩ := hcut
  cases bd
  case true =>
    have HR := hide (Rd.out rfl)
    go_wp2_with fail
    go_ret
    exact ⟨retB HR.out.symm, Hb2.out⟩
  have Hst := hide (Rr'.out rfl).symm
  clear Rr' Rd Hd1 Hd0
  have Hb2' := Hb2; have Hk1' := Hk1; have Hk2' := Hk2
  go_upto_region 6 with fail
  go_wp2_with fail
  go_loopw [74] (fun i wr => ∃ k : Nat, k ≤ N ∧ i = .int .i64 k ∧ stackB x.qCodes (fs.drop k) = R ∧ Below w.heap.size w wr ∧ Bk wr w.heap.size 31 #[.slice A x.qCodes.length c] ∧ Bk wr (w.heap.size + 1) 47 #[.slice A0 N c0, .slice A1 tr.length c1, .int .i64 us, .int .i64 cd, .int .i64 vl, .int .i64 md, .slice A6 nt.length c6]) (fun i _ => N - (intOf i).toNat)
  case atStart => exact ⟨0, by omega, rfl, Hst.out, Hb2.out, Hk1.out, Hk2.out⟩
  case round =>
    obtain ⟨k, hk, rfl, hst, hb, hk1, hk2⟩ := hrel
    have hN := HN.out
    by_cases hlt : k < N
    · have hlt' : k < fs.length := by omega
      rw [stack_step hlt'] at hst
      obtain ⟨b, o, P3, d3, P4, d4, P5, d5, e9, hbB, hcell, hxf⟩ := RFrame_lit K0.out hlt'
      subst e9
      obtain ⟨f0, f1, f2, f3, f4, f5, f6, f7, f8, f9, f10⟩ := eleven (o := o + k * 11) (cells_below hcell hb hbB)
      have hbw : b < wr.heap.size := Nat.lt_of_lt_of_le hbB hb.size
      have hkI : (k : Int) < (N : Int) := by omega
      obtain ⟨j, hj⟩ : ∃ j : Nat, (j : Int) = lstI ((k : Int) + 1) ((N : Int) - 1) := ⟨min (k + 1) (N - 1), by unfold lstI; split <;> omega⟩
      have hj2 : j = k + 1 ∧ k + 1 < N ∨ j = k ∧ k + 1 = N := by unfold lstI at hj; split at hj <;> omega
      have hjl : j < fs.length := by omega
      obtain ⟨la, hla⟩ : ∃ la : Bool, la = decide (k + 1 = N) := ⟨_, rfl⟩
      have he : fs[k + 1]? = if la then none else some fs[j] := by
        subst hla
        rcases hj2 with ⟨rfl, h⟩ | ⟨rfl, h⟩
        · rw [List.getElem?_eq_getElem hjl, if_neg (by simp; omega)]
        · rw [List.getElem?_eq_none (by omega), if_pos (by simp; omega)]
      rw [he] at hst
      obtain ⟨b', o', E3, g3, E4, g4, E5, g5, e9, hbB', hcell2, hxa⟩ := RFrame_lit K0.out hjl
      cases e9
      have hle : ∀ W, Calls Tryz.prog 65 #[.int .i64 (IntKind.i64.wrap ((k : Int) + 1)), .int .i64 (IntKind.i64.wrap ((N : Int) - 1))] W fun e w' => e = .returned (.int .i64 (j : Int)) ∧ w' = W := fun W => by
        have := spec_l1LeastV (IntKind.i64.wrap ((k : Int) + 1)) (IntKind.i64.wrap ((N : Int) - 1)) W
        rw [show lstI (IntKind.i64.wrap ((k : Int) + 1)) (IntKind.i64.wrap ((N : Int) - 1)) = (j : Int) from by rw [hj, IntKind.wrap_i64, IntKind.wrap_i64]; unfold lstI; split <;> split <;> omega] at this
        exact this
      have q9 : ((k : Int) == IntKind.i64.wrap ((N : Int) - 1)) = la := by
        rw [IntKind.wrap_i64, hla, Bool.eq_iff_iff, beq_iff_eq, decide_eq_true_iff]; omega
      have hjI : (j : Int) < (N : Int) := by omega
      have hj0 : (0 : Int) ≤ (j : Int) := by omega
      have hc := fun W (hW : Below w.heap.size w W) => Hfr.out W hW fs[k] fs[j] la _ _ hxf hxa
      generalize frOk x.qCodes fs[k] (if la = true then none else some fs[j]) = FO at *
      have SM : ∀ w', HoF w wr.heap.size #[.slice A x.qCodes.length c] #[.slice (some ⟨b, o, none⟩) N c0, .slice A1 tr.length c1, .int .i64 us, .int .i64 cd, .int .i64 vl, .int .i64 md, .slice A6 nt.length c6] #[.int .i64 fs[k].qId, .int .i64 fs[k].qFn, .int .i64 fs[k].qAt, .slice P3 fs[k].qPile.length d3, .slice P4 fs[k].qVars.length d4, .slice P5 fs[k].qFlags.length d5, .int .i64 fs[k].qResult, .int .i64 fs[k].qMode, .int .i64 fs[k].qValue, .int .i64 fs[k].qBase, .bool fs[k].qOff] w' → w'.cell? ⟨w.heap.size, 0, none⟩ = some (.slice A x.qCodes.length c) ∧ w'.cell? ⟨w.heap.size + 1, 0, none⟩ = some (.slice (some ⟨b, o, none⟩) N c0) ∧ w'.cell? ⟨wr.heap.size, 0, none⟩ = some (.int .i64 fs[k].qId) ∧ w'.cell? ⟨wr.heap.size, 1, none⟩ = some (.int .i64 fs[k].qFn) ∧ w'.cell? ⟨wr.heap.size, 2, none⟩ = some (.int .i64 fs[k].qAt) ∧ w'.cell? ⟨wr.heap.size, 3, none⟩ = some (.slice P3 fs[k].qPile.length d3) ∧ w'.cell? ⟨wr.heap.size, 4, none⟩ = some (.slice P4 fs[k].qVars.length d4) ∧ w'.cell? ⟨wr.heap.size, 5, none⟩ = some (.slice P5 fs[k].qFlags.length d5) ∧ w'.cell? ⟨wr.heap.size, 6, none⟩ = some (.int .i64 fs[k].qResult) ∧ w'.cell? ⟨wr.heap.size, 7, none⟩ = some (.int .i64 fs[k].qMode) ∧ w'.cell? ⟨wr.heap.size, 8, none⟩ = some (.int .i64 fs[k].qValue) ∧ w'.cell? ⟨wr.heap.size, 9, none⟩ = some (.int .i64 fs[k].qBase) ∧ w'.cell? ⟨wr.heap.size, 10, none⟩ = some (.bool fs[k].qOff) ∧ w'.cell? ⟨b, o + j * 11, none⟩ = some (.int .i64 fs[j].qId) ∧ w'.cell? ⟨b, o + j * 11 + 1, none⟩ = some (.int .i64 fs[j].qFn) ∧ w'.cell? ⟨b, o + j * 11 + 2, none⟩ = some (.int .i64 fs[j].qAt) ∧ w'.cell? ⟨b, o + j * 11 + 3, none⟩ = some (.slice E3 fs[j].qPile.length g3) ∧ w'.cell? ⟨b, o + j * 11 + 4, none⟩ = some (.slice E4 fs[j].qVars.length g4) ∧ w'.cell? ⟨b, o + j * 11 + 5, none⟩ = some (.slice E5 fs[j].qFlags.length g5) ∧ w'.cell? ⟨b, o + j * 11 + 6, none⟩ = some (.int .i64 fs[j].qResult) ∧ w'.cell? ⟨b, o + j * 11 + 7, none⟩ = some (.int .i64 fs[j].qMode) ∧ w'.cell? ⟨b, o + j * 11 + 8, none⟩ = some (.int .i64 fs[j].qValue) ∧ w'.cell? ⟨b, o + j * 11 + 9, none⟩ = some (.int .i64 fs[j].qBase) ∧ w'.cell? ⟨b, o + j * 11 + 10, none⟩ = some (.bool fs[j].qOff) ∧ HoF w wr.heap.size #[.slice A x.qCodes.length c] #[.slice (some ⟨b, o, none⟩) N c0, .slice A1 tr.length c1, .int .i64 us, .int .i64 cd, .int .i64 vl, .int .i64 md, .slice A6 nt.length c6] #[.int .i64 fs[k].qId, .int .i64 fs[k].qFn, .int .i64 fs[k].qAt, .slice P3 fs[k].qPile.length d3, .slice P4 fs[k].qVars.length d4, .slice P5 fs[k].qFlags.length d5, .int .i64 fs[k].qResult, .int .i64 fs[k].qMode, .int .i64 fs[k].qValue, .int .i64 fs[k].qBase, .bool fs[k].qOff] w' := fun W' h => by
        obtain ⟨x0, x1, x2, x3, x4, x5, x6, x7, x8, x9, x10⟩ := eleven (o := o + j * 11) (cells_below hcell2 h.b hbB)
        exact ⟨h.i.cell 0, h.v.cell 0, h.f.cell 0, h.f.cell 1, h.f.cell 2, h.f.cell 3, h.f.cell 4, h.f.cell 5, h.f.cell 6, h.f.cell 7, h.f.cell 8, h.f.cell 9, h.f.cell 10, x0, x1, x2, x3, x4, x5, x6, x7, x8, x9, x10, h⟩
      generalize fs[j] = a at *
      generalize fs[k] = f at *
      have ho9 : HoF w wr.heap.size #[.slice A x.qCodes.length c] #[.slice (some ⟨b, o, none⟩) N c0, .slice A1 tr.length c1, .int .i64 us, .int .i64 cd, .int .i64 vl, .int .i64 md, .slice A6 nt.length c6] #[.int .i64 f.qId, .int .i64 f.qFn, .int .i64 f.qAt, .slice P3 f.qPile.length d3, .slice P4 f.qVars.length d4, .slice P5 f.qFlags.length d5, .int .i64 f.qResult, .int .i64 f.qMode, .int .i64 f.qValue, .int .i64 f.qBase, .bool f.qOff] (wr.alloc (.cells #[.int .i64 f.qId, .int .i64 f.qFn, .int .i64 f.qAt, .slice P3 f.qPile.length d3, .slice P4 f.qVars.length d4, .slice P5 f.qFlags.length d5, .int .i64 f.qResult, .int .i64 f.qMode, .int .i64 f.qValue, .int .i64 f.qBase, .bool f.qOff] 102)).drew := ⟨(hb.alloc hb.size _).drew, (hk1.alloc _).drew, (hk2.alloc _).drew, (Bk.new wr 102 #[.int .i64 f.qId, .int .i64 f.qFn, .int .i64 f.qAt, .slice P3 f.qPile.length d3, .slice P4 f.qVars.length d4, .slice P5 f.qFlags.length d5, .int .i64 f.qResult, .int .i64 f.qMode, .int .i64 f.qValue, .int .i64 f.qBase, .bool f.qOff]).drew⟩
      have Ho9 := hide ho9; have HSM := Lib.hid SM
      have HC := Lib.hid hc; have HLe := Lib.hid hle; have Hst := hide hst
      have k1c := hk1.cell 0; have k1l := hk1.lt; have k2c := hk2.cell 0; have k2l := hk2.lt
      clear hc hle hb hk1 hk2 hxf hxa hcell hcell2 hj hj2 hla he ho9 SM hst hN
      go_wp2_with fail
      go_region_held3 (fun w' => w'.cell? ⟨w.heap.size, 0, none⟩ = some (.slice A x.qCodes.length c) ∧ w'.cell? ⟨w.heap.size + 1, 0, none⟩ = some (.slice (some ⟨b, o, none⟩) N c0) ∧ w'.cell? ⟨wr.heap.size, 0, none⟩ = some (.int .i64 f.qId) ∧ w'.cell? ⟨wr.heap.size, 1, none⟩ = some (.int .i64 f.qFn) ∧ w'.cell? ⟨wr.heap.size, 2, none⟩ = some (.int .i64 f.qAt) ∧ w'.cell? ⟨wr.heap.size, 3, none⟩ = some (.slice P3 f.qPile.length d3) ∧ w'.cell? ⟨wr.heap.size, 4, none⟩ = some (.slice P4 f.qVars.length d4) ∧ w'.cell? ⟨wr.heap.size, 5, none⟩ = some (.slice P5 f.qFlags.length d5) ∧ w'.cell? ⟨wr.heap.size, 6, none⟩ = some (.int .i64 f.qResult) ∧ w'.cell? ⟨wr.heap.size, 7, none⟩ = some (.int .i64 f.qMode) ∧ w'.cell? ⟨wr.heap.size, 8, none⟩ = some (.int .i64 f.qValue) ∧ w'.cell? ⟨wr.heap.size, 9, none⟩ = some (.int .i64 f.qBase) ∧ w'.cell? ⟨wr.heap.size, 10, none⟩ = some (.bool f.qOff) ∧ w'.cell? ⟨b, o + j * 11, none⟩ = some (.int .i64 a.qId) ∧ w'.cell? ⟨b, o + j * 11 + 1, none⟩ = some (.int .i64 a.qFn) ∧ w'.cell? ⟨b, o + j * 11 + 2, none⟩ = some (.int .i64 a.qAt) ∧ w'.cell? ⟨b, o + j * 11 + 3, none⟩ = some (.slice E3 a.qPile.length g3) ∧ w'.cell? ⟨b, o + j * 11 + 4, none⟩ = some (.slice E4 a.qVars.length g4) ∧ w'.cell? ⟨b, o + j * 11 + 5, none⟩ = some (.slice E5 a.qFlags.length g5) ∧ w'.cell? ⟨b, o + j * 11 + 6, none⟩ = some (.int .i64 a.qResult) ∧ w'.cell? ⟨b, o + j * 11 + 7, none⟩ = some (.int .i64 a.qMode) ∧ w'.cell? ⟨b, o + j * 11 + 8, none⟩ = some (.int .i64 a.qValue) ∧ w'.cell? ⟨b, o + j * 11 + 9, none⟩ = some (.int .i64 a.qBase) ∧ w'.cell? ⟨b, o + j * 11 + 10, none⟩ = some (.bool a.qOff) ∧ HoF w wr.heap.size #[.slice A x.qCodes.length c] #[.slice (some ⟨b, o, none⟩) N c0, .slice A1 tr.length c1, .int .i64 us, .int .i64 cd, .int .i64 vl, .int .i64 md, .slice A6 nt.length c6] #[.int .i64 f.qId, .int .i64 f.qFn, .int .i64 f.qAt, .slice P3 f.qPile.length d3, .slice P4 f.qVars.length d4, .slice P5 f.qFlags.length d5, .int .i64 f.qResult, .int .i64 f.qMode, .int .i64 f.qValue, .int .i64 f.qBase, .bool f.qOff] w')
        (first
          | with_reducible exact HSM.out _ Ho9.out
          | with_reducible assumption
          | with_reducible exact HSM.out _ Ho10.out)
        (first
          | (go_at_call 65; refine (HLe.out _).mono ?_; rintro e w1 ⟨rfl, rfl⟩)
          | (go_at_call 64; refine (HC.out _ Ho9.out.b).mono ?_; rintro e w1 ⟨rfl, hb1⟩; have Ho10 := hide (Ho9.out.below hb1); clear hb1))
      cases FO
      · rw [Bool.false_and] at Hst
        go_wp2
        go_ret
        exact ⟨retB Hst.out, Ho10.out.b⟩
      · rw [Bool.true_and] at Hst
        go_wp2
        go_roundw
        case rel => exact ⟨k + 1, by omega, by go_num, Hst.out, Ho10.out.b, Ho10.out.i, Ho10.out.v⟩
        case measure => simp [intOf]; omega
    · obtain rfl : k = N := by omega
      rw [← hN, stack_end] at hst
      have Hst' := hide hst; have Hbb := hide hb
      clear hst hb hk1 hk2 hN
      go_wp2
      go_ret
      exact ⟨retB Hst'.out, Hbb.out⟩
end Go.Proofs.YtaebmliolpgmdaaGreat
