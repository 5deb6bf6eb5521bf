
/- l8End: what the Go text returns. No condition. -/
import Derived.Test.YtaebmliolpgmdaaEn1
import Derived.Deep.Cut
import Derived.Deep.CutRange
set_option linter.unusedSimpArgs false
set_option linter.unusedVariables false
set_option maxRecDepth 100000
namespace Go.Proofs.Ytaebmliolpgmdaa
open Go.RowKit

/-- an outcome -/
def enC (c : Int) : Int := if c = 0 then 5 else c
def enV (c v : Int) : Int := if c = 1 ∨ c = 2 then v else 0
abbrev ocV (c v : Int) (s : Value) (u : Int) : Value := .agg #[.int .i64 c, .int .i64 v, s, .int .i64 u]
def Hold (w : World) (g : Nat) (t : TypeId) (cs : Array Value) (W : World) : Prop := Bk W g t cs ∧ Below w.heap.size w W
abbrev VmS (w : World) (g : Nat) (t : TypeId) (a b c d e f h : Value) (W : World) : Prop := W.cell? ⟨g, 1, none⟩ = some b ∧ W.cell? ⟨g, 2, none⟩ = some c ∧ W.cell? ⟨g, 3, none⟩ = some d ∧ Hold w g t #[a, b, c, d, e, f, h] W
section
variable {w W : World} {g : Nat} {t : TypeId} {a b c d e f h : Value}
theorem vmS_mk (k : Hold w g t #[a, b, c, d, e, f, h] W) : VmS w g t a b c d e f h W := ⟨k.1.cell 1, k.1.cell 2, k.1.cell 3, k⟩
theorem vmS_alloc (k : VmS w g t a b c d e f h W) (o : Obj) : VmS w g t a b c d e f h (W.alloc o) := vmS_mk ⟨k.2.2.2.1.alloc o, k.2.2.2.2.alloc k.2.2.2.2.size o⟩
theorem vmS_drew (k : VmS w g t a b c d e f h W) : VmS w g t a b c d e f h W.drew := vmS_mk ⟨k.2.2.2.1.drew, k.2.2.2.2.drew⟩
theorem vmS_below (k : VmS w g t a b c d e f h W) {w1 : World} (hb : Hid (Below W.heap.size W w1)) : VmS w g t a b c d e f h w1 := vmS_mk ⟨k.2.2.2.1.below hb.out, k.2.2.2.2.trans (hb.out.mono k.2.2.2.2.size)⟩
theorem vmS_set (k : VmS w g t a b c d e f h W) {q : Nat} (i : Nat) (u : Value) (h1 : g ≠ q) (h2 : w.heap.size ≤ q) : VmS w g t a b c d e f h (W.setCell ⟨q, i, none⟩ u) := vmS_mk ⟨k.2.2.2.1.far h1 i u, k.2.2.2.2.setCell (p := ⟨q, i, none⟩) h2 u⟩
theorem vmS_b (k : VmS w g t a b c d e f h W) : Below w.heap.size w W := k.2.2.2.2
end
theorem bcellE {W w1 : World} (hb : Below W.heap.size W w1) : (∀ b o, b < W.heap.size → w1.cell? ⟨b, o, none⟩ = W.cell? ⟨b, o, none⟩) ∧ (∀ b o, b < W.heap.size → w1.frozen? ⟨b, o, none⟩ = W.frozen? ⟨b, o, none⟩) :=
  ⟨fun b o h => hb.cell (p := ⟨b, o, none⟩) h, fun b o h => hb.frozen (p := ⟨b, o, none⟩) h⟩
theorem own_setq {w : World} {base n : Nat} {e : TypeId} {size : Nat} {v : Value} {xs : List Value} (h : w.ownsRow base e size v n xs) {q : Nat} (i : Nat) (u : Value) (hp : ∀ k, v.ownBlock = some k → k ≠ q) : (w.setCell ⟨q, i, none⟩ u).ownsRow base e size v n xs := own_far h u hp
theorem below_setq {w W : World} {B q : Nat} (h : Below B w W) (hq : B ≤ q) (i : Nat) (u : Value) : Below B w (W.setCell ⟨q, i, none⟩ u) := h.setCell (p := ⟨q, i, none⟩) hq u
structure EndS (w : World) (g3 : Nat) (u v0 v1 v6 : Value) (U C V M : Int) (T : List Int) (W : World) : Prop where
  s : VmS w w.heap.size 46 v0 v1 (.int .i64 U) (.int .i64 C) (.int .i64 V) (.int .i64 M) v6 W
  r : Bk W (w.heap.size + 1) 50 #[.int .i64 0, .int .i64 0, .slice none 0 0, .int .i64 0]
  o : Bk W g3 50 #[.int .i64 C, .int .i64 0, u, .int .i64 U]
  own : W.ownsRow w.heap.size 3 1 u T.length (icells .i64 T)
  ge : w.heap.size + 1 < g3
  ne : ∀ k, u.ownBlock = some k → k ≠ g3 ∧ k ≠ w.heap.size + 1
section
variable {w w1 : World} {v0 v1 v6 u : Value} {U C V M : Int} {T : List Int}
abbrev zO : Obj := .cells #[.int .i64 0, .int .i64 0, .slice none 0 0, .int .i64 0] 50
abbrev w0O (w : World) (v0 v1 v6 : Value) (U C V M : Int) : World := (w.alloc (.cells #[v0, v1, .int .i64 U, .int .i64 C, .int .i64 V, .int .i64 M, v6] 46)).alloc zO
theorem own_ge {w : World} {base n : Nat} {e : TypeId} {size : Nat} {v : Value} {xs : List Value} (h : w.ownsRow base e size v n xs) : ∀ k, v.ownBlock = some k → base ≤ k ∧ k < w.heap.size := by
  intro k hk
  rcases h.2 with ⟨rfl, _⟩ | ⟨g, cap, cur, rfl, hg, hh, _⟩
  · simp [Value.ownBlock] at hk
  · simp [Value.ownBlock] at hk
    subst hk
    exact ⟨hg, (Array.getElem?_eq_some_iff.1 hh).1⟩
theorem rv_bk (w : World) (v0 v1 v6 : Value) (U C V M : Int) : Bk (w0O w v0 v1 v6 U C V M) (w.heap.size + 1) 50 #[.int .i64 0, .int .i64 0, .slice none 0 0, .int .i64 0] := by
  have h := Bk.new (w.alloc (.cells #[v0, v1, .int .i64 U, .int .i64 C, .int .i64 V, .int .i64 M, v6] 46)) 50 #[.int .i64 0, .int .i64 0, .slice none 0 0, .int .i64 0]
  simpa only [World.size_alloc] using h
theorem endS_a (hv : VmS w w.heap.size 46 v0 v1 (.int .i64 U) (.int .i64 C) (.int .i64 V) (.int .i64 M) v6 w1) (hb : Below (w0O w v0 v1 v6 U C V M).drew.heap.size (w0O w v0 v1 v6 U C V M).drew w1)
    (ho : w1.ownsRow (w0O w v0 v1 v6 U C V M).drew.heap.size 3 1 u T.length (icells .i64 T)) :
    EndS w w1.heap.size u v0 v1 v6 U C V M T (w1.alloc (.cells #[.int .i64 C, .int .i64 0, u, .int .i64 U] 50)) := by
  have hz := hb.size
  have hsz : (w0O w v0 v1 v6 U C V M).drew.heap.size = w.heap.size + 1 + 1 := by simp
  have hge := own_ge ho
  rw [hsz] at hz hge
  exact ⟨vmS_alloc hv _, ((rv_bk w v0 v1 v6 U C V M).drew.below hb).alloc _, Bk.new _ _ _, (own_base ho (by rw [hsz]; omega)).alloc _, by omega, fun k hk => by have := hge k hk; omega⟩
theorem endS_b (hv : VmS w w.heap.size 46 v0 v1 (.int .i64 U) (.int .i64 C) (.int .i64 V) (.int .i64 M) v6 w1) (hb : Below ((w0O w v0 v1 v6 U C V M).alloc zO).drew.heap.size ((w0O w v0 v1 v6 U C V M).alloc zO).drew w1)
    (ho : w1.ownsRow ((w0O w v0 v1 v6 U C V M).alloc zO).drew.heap.size 3 1 u T.length (icells .i64 T)) :
    EndS w (w.heap.size + 1 + 1) u v0 v1 v6 U C V M T ((((w1.setCell ⟨w.heap.size + 1 + 1, 0, none⟩ (.int .i64 C)).setCell ⟨w.heap.size + 1 + 1, 1, none⟩ (.int .i64 0)).setCell ⟨w.heap.size + 1 + 1, 2, none⟩ u).setCell ⟨w.heap.size + 1 + 1, 3, none⟩ (.int .i64 U)) := by
  have hz := hb.size
  have hsz : ((w0O w v0 v1 v6 U C V M).alloc zO).drew.heap.size = w.heap.size + 1 + 1 + 1 := by simp
  have hge := own_ge ho
  rw [hsz] at hz hge
  have hno : ∀ k, u.ownBlock = some k → k ≠ w.heap.size + 1 + 1 := fun k hk => by have := hge k hk; omega
  have hr := ((rv_bk w v0 v1 v6 U C V M).alloc zO).drew.below hb
  have hq : Bk w1 (w.heap.size + 1 + 1) 50 #[.int .i64 0, .int .i64 0, .slice none 0 0, .int .i64 0] := by
    have h := (Bk.new (w0O w v0 v1 v6 U C V M) 50 #[.int .i64 0, .int .i64 0, .slice none 0 0, .int .i64 0]).drew.below hb
    simpa only [World.size_alloc] using h
  refine ⟨vmS_set (vmS_set (vmS_set (vmS_set hv _ _ (by omega) (by omega)) _ _ (by omega) (by omega)) _ _ (by omega) (by omega)) _ _ (by omega) (by omega), (((hr.far (by omega) _ _).far (by omega) _ _).far (by omega) _ _).far (by omega) _ _, (((hq.set _ _).set _ _).set _ _).set _ _, ?_, by omega, fun k hk => by have := hge k hk; omega⟩
  exact own_far (own_far (own_far (own_far (own_base ho (by rw [hsz]; omega)) _ hno) _ hno) _ hno) _ hno
end
set_option maxHeartbeats 3200000 in
theorem spec_l8End (cs : List Value) (m : VmM) (w : World) (hr : RVm w 0 w.heap.size cs m) (hl : m.qTrace.length ≤ 1048576) (h0 : 0 ≤ m.qCode) (h4 : m.qCode ≤ 4) :
    Calls Try.prog 50 #[.agg cs.toArray] w fun e w' => ∃ v', e = .returned (ocV (enC m.qCode) (enV m.qCode m.qValue) v' m.qUsed) ∧ w'.ownsRow w.heap.size 3 1 v' m.qTrace.length (icells .i64 m.qTrace) ∧ Below w.heap.size w w' := by
  obtain ⟨v0, v1, v6, rfl, f0, f1, f6⟩ := hr
  obtain ⟨A0, C0, rfl⟩ := f0.form
  obtain ⟨A1, C1, rfl⟩ := f1.form
  obtain ⟨A6, C6, rfl⟩ := f6.form
  obtain ⟨F, T, U, C, V, M, N⟩ := m
  dsimp only at *
  have hc := fun W (hW : Below w.heap.size w W) => spec_l1Own _ T W (f1.here hW).rd hl
  have hb := ((Below.refl w.heap.size w).alloc (Nat.le_refl _) (.cells #[.slice A0 F.length C0, .slice A1 T.length C1, .int .i64 U, .int .i64 C, .int .i64 V, .int .i64 M, .slice A6 N.length C6] 46)).alloc (by simp) (.cells #[.int .i64 0, .int .i64 0, .slice none 0 0, .int .i64 0] 50)
  have hk := (Bk.new w 46 #[.slice A0 F.length C0, .slice A1 T.length C1, .int .i64 U, .int .i64 C, .int .i64 V, .int .i64 M, .slice A6 N.length C6]).alloc (.cells #[.int .i64 0, .int .i64 0, .slice none 0 0, .int .i64 0] 50)
  have hs := vmS_mk ⟨hk, hb⟩
  have HC := Lib.hid hc; have Hs := hide hs; have Hb := hide hb; have Hk := hide hk
  clear hc hb hk f0 f1 f6 hs
  go_enter Try.func50, Try.ntmps50
  go_upto_region 1 with fail
  go_cut [3] from 3 to 11 (fun p wx => ∃ (g3 : Nat) (u : Value), p = .pointer (some ⟨g3, 0, none⟩) ∧ EndS w g3 u (.slice A0 F.length C0) (.slice A1 T.length C1) (.slice A6 N.length C6) U C V M T wx)
  case first =>
    go_region_held3 (fun w' => w'.cell? ⟨w.heap.size, 1, none⟩ = some (.slice A1 T.length C1) ∧ w'.cell? ⟨w.heap.size, 2, none⟩ = some (.int .i64 U) ∧ w'.cell? ⟨w.heap.size, 3, none⟩ = some (.int .i64 C) ∧ Hold w w.heap.size 46 #[.slice A0 F.length C0, .slice A1 T.length C1, .int .i64 U, .int .i64 C, .int .i64 V, .int .i64 M, .slice A6 N.length C6] w')
      (first
        | with_reducible exact vmS_drew Hs.out
        | with_reducible exact vmS_drew (vmS_alloc Hs.out _)
        | with_reducible exact vmS_alloc (by assumption) _
        | with_reducible exact vmS_below (by assumption) Hb1
        | with_reducible exact vmS_alloc Hv1.out _
        | with_reducible exact vmS_set (vmS_set (vmS_set (vmS_set Hv1.out _ _ (by omega) (by omega)) _ _ (by omega) (by omega)) _ _ (by omega) (by omega)) _ _ (by omega) (by omega))
      ((go_at_call 84; refine (HC.out _ (vmS_b (by assumption))).mono ?_; rintro e w1 ⟨u, rfl, hown, hb1⟩; obtain ⟨Au, Cu, rfl⟩ := own_form hown; obtain ⟨hc1, hf1⟩ := bcellE hb1; have hz1 := hb1.size; have Hb1 := hide hb1; have Ho1 := hide hown; have Hv1 := hide (vmS_below (by assumption) Hb1); clear hb1 hown))
    · clear hc1 hf1 hz1
      go_wp2_with fail
      go_meet
      case rel => exact ⟨_, _, rfl, endS_a Hv1.out Hb1.out Ho1.out⟩
    · clear hc1 hf1 hz1
      go_wp2_with fail
      go_meet
      case rel => exact ⟨_, _, rfl, endS_b Hv1.out Hb1.out Ho1.out⟩
  obtain ⟨g3, u, rfl, he⟩ := hcut
  obtain ⟨hs, hr, ho, hown, hge, hne⟩ := he
  obtain ⟨Au, Cu, rfl⟩ := own_form hown
  obtain ⟨x1, x2, x3, xh⟩ := hs
  have x4 := xh.1.cell 4; have xl := xh.1.lt
  have r0 := hr.cell 0; have r1 := hr.cell 1; have r2 := hr.cell 2; have r3 := hr.cell 3; have rl := hr.lt
  have rf0 := hr.frozen 0; have rf1 := hr.frozen 1; have rf2 := hr.frozen 2; have rf3 := hr.frozen 3
  have o0 := ho.cell 0; have o1 := ho.cell 1; have o2 := ho.cell 2; have o3 := ho.cell 3; have ol := ho.lt
  have of0 := ho.frozen 0; have of1 := ho.frozen 1
  have n1 : ¬ (w.heap.size = g3) := by omega
  have n2 : ¬ (w.heap.size + 1 = g3) := by omega
  have n3 : ¬ (g3 = w.heap.size + 1) := by omega
  have n4 : ¬ (g3 = w.heap.size) := by omega
  have Hown := hide hown; have Hne := Lib.hid hne; have Hxh := hide xh.2
  have Hge := hide hge
  clear hown hne xh hr ho HC Hs Hb Hk x1 x2 h0 h4 hl
  by_cases hC0 : C = 0
  · subst hC0
    go_wp2
    refine bodyPost_ret (v := ocV 5 0 (.slice Au T.length Cu) U) (by simp [results, Try.results50, go_sem, r0, r1, r2, r3, rl, o0, o1, o2, o3, ol, n1, n2, n3, n4]) rfl ⟨_, rfl, ?_, ?_⟩
    · iterate 4 (with_reducible refine own_setq ?_ _ _ (fun k hk => (Hne.out k hk).2))
      (first | with_reducible exact Hown.out | with_reducible exact own_setq Hown.out _ _ (fun k hk => (Hne.out k hk).1))
    · iterate 4 (with_reducible refine below_setq ?_ (Nat.le_succ _) _ _)
      (first | with_reducible exact Hxh.out | with_reducible exact below_setq Hxh.out (Nat.le_of_succ_le (Nat.le_of_lt Hge.out)) _ _)
  · have e0 : (C == 0) = false := beq_eq_false_iff_ne.2 hC0
    by_cases hC1 : C = 1
    · subst hC1
      go_wp2
      refine bodyPost_ret (v := ocV 1 V (.slice Au T.length Cu) U) (by simp [results, Try.results50, go_sem, r0, r1, r2, r3, rl, o0, o1, o2, o3, ol, n1, n2, n3, n4]) rfl ⟨_, rfl, ?_, ?_⟩
      · iterate 4 (with_reducible refine own_setq ?_ _ _ (fun k hk => (Hne.out k hk).2))
        (first | with_reducible exact Hown.out | with_reducible exact own_setq Hown.out _ _ (fun k hk => (Hne.out k hk).1))
      · iterate 4 (with_reducible refine below_setq ?_ (Nat.le_succ _) _ _)
        (first | with_reducible exact Hxh.out | with_reducible exact below_setq Hxh.out (Nat.le_of_succ_le (Nat.le_of_lt Hge.out)) _ _)
    · have e1 : (C == 1) = false := beq_eq_false_iff_ne.2 hC1
      by_cases hC2 : C = 2
      · subst hC2
        go_wp2
        refine bodyPost_ret (v := ocV 2 V (.slice Au T.length Cu) U) (by simp [results, Try.results50, go_sem, r0, r1, r2, r3, rl, o0, o1, o2, o3, ol, n1, n2, n3, n4]) rfl ⟨_, rfl, ?_, ?_⟩
        · iterate 4 (with_reducible refine own_setq ?_ _ _ (fun k hk => (Hne.out k hk).2))
          (first | with_reducible exact Hown.out | with_reducible exact own_setq Hown.out _ _ (fun k hk => (Hne.out k hk).1))
        · iterate 4 (with_reducible refine below_setq ?_ (Nat.le_succ _) _ _)
          (first | with_reducible exact Hxh.out | with_reducible exact below_setq Hxh.out (Nat.le_of_succ_le (Nat.le_of_lt Hge.out)) _ _)
      · have e2 : (C == 2) = false := beq_eq_false_iff_ne.2 hC2
        have HE := hide (show enC C = C ∧ enV C V = 0 from ⟨if_neg hC0, if_neg (by omega)⟩)
        clear hC0 hC1 hC2
        go_wp2
        refine bodyPost_ret (v := ocV C 0 (.slice Au T.length Cu) U) (by simp [results, Try.results50, go_sem, r0, r1, r2, r3, rl, o0, o1, o2, o3, ol, n1, n2, n3, n4]) rfl ⟨_, by rw [HE.out.1, HE.out.2], ?_, ?_⟩
        · iterate 4 (with_reducible refine own_setq ?_ _ _ (fun k hk => (Hne.out k hk).2))
          (first | with_reducible exact Hown.out | with_reducible exact own_setq Hown.out _ _ (fun k hk => (Hne.out k hk).1))
        · iterate 4 (with_reducible refine below_setq ?_ (Nat.le_succ _) _ _)
          (first | with_reducible exact Hxh.out | with_reducible exact below_setq Hxh.out (Nat.le_of_succ_le (Nat.le_of_lt Hge.out)) _ _)
end Go.Proofs.Ytaebmliolpgmdaa
