
/- When a machine is good: plain Lean, no program in sight. No condition. -/
import Derived.Test.YtaebmliolpgmdaaGreatGc9
import Derived.Test.YtaebmliolpgmdaaGreatNdVm
set_option linter.unusedSimpArgs false
set_option linter.unusedVariables false
set_option maxRecDepth 100000
namespace Go.Proofs.YtaebmliolpgmdaaGreat
open Go.RowKit

noncomputable def htsOf (l : List CodeM) (c : CodeM) : List Int := ((waysOf l c).heights).getD []
theorem hts_eq {l : List CodeM} {c : CodeM} {hs : List Int} (h : HInv (waysOf l c) hs []) : htsOf l c = hs := by unfold htsOf; rw [Ways.heights_some h]; rfl
theorem codeN_named {l : List CodeM} {c : CodeM} (h : codeN l c = 0) : c.qIns.all (namedI l.length c) = true := by
  cases h1 : c.qIns.all (namedI l.length c)
  · rw [codeN_1 h1] at h; omega
  · rfl
theorem imgB_all {l : List CodeM} (h : imgB l = true) : sizedB l = true ∧ ∀ c ∈ l, codeN l c = 0 := by
  unfold imgB at h
  simp only [Bool.and_eq_true, List.all_eq_true, decide_eq_true_eq] at h
  exact ⟨h.1, h.2.2⟩
def cF (l : List CodeM) (f : FrameM) : CodeM := l.getD f.qFn.toNat c0
theorem cF_at {l : List CodeM} {f : FrameM} {n : Nat} (h : f.qFn = n) (hn : n < l.length) : cF l f = l[n] := by
  unfold cF; rw [h, Int.toNat_natCast]; simp [List.getD, List.getElem?_eq_getElem hn]
def b32 (l : List Int) : Bool := allIn l (-2147483648) 2147483647
def frP (l : List CodeM) (f : FrameM) : Prop :=
  inB f.qFn 0 (l.length - 1) = true ∧ smallB f.qId = true ∧ inB f.qAt 0 ((cF l f).qIns.length - 1) = true ∧ b32 f.qPile = true ∧ b32 f.qVars = true ∧ (f.qVars.length : Int) = (cF l f).qVars ∧ f.qFlags.length = (cF l f).qSites.length ∧ smallB f.qResult = true ∧ inB f.qMode 0 3 = true ∧ smallB f.qValue = true ∧ (f.qBase = 1 ∨ f.qBase = 3)
noncomputable def frB (l : List CodeM) (f : FrameM) : Bool := @decide (frP l f) (Classical.propDecidable _)
theorem frB_no {l : List CodeM} {f : FrameM} (h : ¬ frP l f) : frB l f = false := by unfold frB; exact @decide_eq_false _ (Classical.propDecidable _) h
theorem frB_yes {l : List CodeM} {f : FrameM} (h : frP l f) : frB l f = true := by unfold frB; exact @decide_eq_true _ (Classical.propDecidable _) h
theorem frB_iff {l : List CodeM} {f : FrameM} (h : frB l f = true) : frP l f := by unfold frB at h; exact @of_decide_eq_true _ (Classical.propDecidable _) h
/-- how high a frame's pile has to be, by what stands above it -/
noncomputable def hgtOf (l : List CodeM) (f : FrameM) : Option FrameM → Option Int
  | none => some (lab (htsOf l (cF l f)) f.qAt.toNat)
  | some a =>
    if ((cF l f).qIns.getD f.qAt.toNat ⟨0, 0⟩).o = 7 then (if a.qFn = ((cF l f).qIns.getD f.qAt.toNat ⟨0, 0⟩).n ∧ a.qOff = false then some (lab (htsOf l (cF l f)) f.qAt.toNat - takes l ((cF l f).qIns.getD f.qAt.toNat ⟨0, 0⟩)) else none)
    else if ((cF l f).qIns.getD f.qAt.toNat ⟨0, 0⟩).o = 17 then (if a.qFn = (cF l f).qSites.getD ((cF l f).qIns.getD f.qAt.toNat ⟨0, 0⟩).n.toNat 0 ∧ a.qOff = true then some (lab (htsOf l (cF l f)) f.qAt.toNat) else none)
    else none
noncomputable def stepB (l : List CodeM) (f : FrameM) (a : Option FrameM) : Bool :=
  match hgtOf l f a with
  | none => false
  | some h => decide (h = f.qPile.length)
noncomputable def frOk (l : List CodeM) (f : FrameM) (a : Option FrameM) : Bool := frB l f && stepB l f a
noncomputable def stackB (l : List CodeM) : List FrameM → Bool
  | [] => true
  | f :: fs => frOk l f fs.head? && stackB l fs
theorem stack_step {l : List CodeM} {fs : List FrameM} {k : Nat} (h : k < fs.length) : stackB l (fs.drop k) = (frOk l fs[k] fs[k + 1]? && stackB l (fs.drop (k + 1))) := by
  rw [List.drop_eq_getElem_cons h]
  simp only [stackB, List.head?_drop]
theorem stack_end {l : List CodeM} {fs : List FrameM} : stackB l (fs.drop fs.length) = true := by rw [List.drop_length]; rfl
section
variable {l : List CodeM} {f : FrameM} {n p : Nat}
theorem t_at (h1 : f.qFn = n) (hn : n < l.length) (h2 : f.qAt = p) (hp : p < l[n].qIns.length) : (cF l f).qIns.getD f.qAt.toNat ⟨0, 0⟩ = l[n].qIns[p] := by
  rw [cF_at h1 hn, h2, Int.toNat_natCast]; simp [List.getD, List.getElem?_eq_getElem hp]
theorem stepB_last (h1 : f.qFn = n) (hn : n < l.length) (h2 : f.qAt = p) : stepB l f none = decide (lab (htsOf l l[n]) p = (f.qPile.length : Int)) := by
  simp only [stepB, hgtOf, cF_at h1 hn, h2, Int.toNat_natCast]
theorem stepB_call (h1 : f.qFn = n) (hn : n < l.length) (h2 : f.qAt = p) (hp : p < l[n].qIns.length) {a : FrameM} (h7 : l[n].qIns[p].o = 7) (ha : a.qFn = l[n].qIns[p].n) (ho : a.qOff = false) :
    stepB l f (some a) = decide (lab (htsOf l l[n]) p - takes l l[n].qIns[p] = (f.qPile.length : Int)) := by
  simp only [stepB, hgtOf, t_at h1 hn h2 hp]
  rw [if_pos h7, if_pos ⟨ha, ho⟩]
  simp only [cF_at h1 hn, h2, Int.toNat_natCast]
theorem stepB_callno (h1 : f.qFn = n) (hn : n < l.length) (h2 : f.qAt = p) (hp : p < l[n].qIns.length) {a : FrameM} (h7 : l[n].qIns[p].o = 7) (ha : ¬ (a.qFn = l[n].qIns[p].n ∧ a.qOff = false)) :
    stepB l f (some a) = false := by
  simp only [stepB, hgtOf, t_at h1 hn h2 hp]
  rw [if_pos h7, if_neg ha]
theorem stepB_off (h1 : f.qFn = n) (hn : n < l.length) (h2 : f.qAt = p) (hp : p < l[n].qIns.length) {a : FrameM} (h7 : l[n].qIns[p].o = 17) {s : Nat} (hs : l[n].qIns[p].n = s) (hsl : s < l[n].qSites.length) (ha : a.qFn = l[n].qSites[s]) (ho : a.qOff = true) :
    stepB l f (some a) = decide (lab (htsOf l l[n]) p = (f.qPile.length : Int)) := by
  have e : l[n].qSites.getD s 0 = l[n].qSites[s] := by simp [List.getD, List.getElem?_eq_getElem hsl]
  simp only [stepB, hgtOf, t_at h1 hn h2 hp]
  rw [if_neg (by omega), if_pos h7, cF_at h1 hn, hs, Int.toNat_natCast, e, if_pos ⟨ha, ho⟩]
  simp only [h2, Int.toNat_natCast]
theorem stepB_offno (h1 : f.qFn = n) (hn : n < l.length) (h2 : f.qAt = p) (hp : p < l[n].qIns.length) {a : FrameM} (h7 : l[n].qIns[p].o = 17) {s : Nat} (hs : l[n].qIns[p].n = s) (hsl : s < l[n].qSites.length) (ha : ¬ (a.qFn = l[n].qSites[s] ∧ a.qOff = true)) :
    stepB l f (some a) = false := by
  have e : l[n].qSites.getD s 0 = l[n].qSites[s] := by simp [List.getD, List.getElem?_eq_getElem hsl]
  simp only [stepB, hgtOf, t_at h1 hn h2 hp]
  rw [if_neg (by omega), if_pos h7, cF_at h1 hn, hs, Int.toNat_natCast, e, if_neg ha]
theorem stepB_other (h1 : f.qFn = n) (hn : n < l.length) (h2 : f.qAt = p) (hp : p < l[n].qIns.length) {a : FrameM} (h7 : l[n].qIns[p].o ≠ 7) (h8 : l[n].qIns[p].o ≠ 17) : stepB l f (some a) = false := by
  simp only [stepB, hgtOf, t_at h1 hn h2 hp]
  rw [if_neg h7, if_neg h8]
end
def vmP (v : VmM) : Prop := inB v.qCode 0 4 = true ∧ inB v.qUsed 0 10 = true ∧ inB v.qMade 0 1000000 = true ∧ smallB v.qValue = true ∧ b32 v.qTrace = true
def vmQ (v : VmM) : Prop := ¬ (v.qCode = 0 ∧ v.qFrames.length = 0) ∧ ¬ (v.qCode ≠ 0 ∧ v.qCode ≠ 4 ∧ 0 < v.qFrames.length)
def offH : List FrameM → Bool
  | [] => false
  | f :: _ => f.qOff
theorem offH_at {fs : List FrameM} (h : 0 < fs.length) : offH fs = fs[0].qOff := by
  cases fs with
  | nil => simp at h
  | cons a l => rfl
noncomputable def vmB (l : List CodeM) (v : VmM) : Bool := @decide (vmP v ∧ vmQ v) (Classical.propDecidable _) && (!offH v.qFrames && stackB l v.qFrames)
theorem vmB_no {l : List CodeM} {v : VmM} (h : ¬ (vmP v ∧ vmQ v)) : vmB l v = false := by
  unfold vmB; rw [@decide_eq_false _ (Classical.propDecidable _) h]; rfl
theorem vmB_off {l : List CodeM} {v : VmM} (h : offH v.qFrames = true) : vmB l v = false := by unfold vmB; rw [h]; simp
theorem vmB_yes {l : List CodeM} {v : VmM} (h1 : vmP v) (h2 : vmQ v) (h : offH v.qFrames = false) : vmB l v = stackB l (v.qFrames.drop 0) := by
  unfold vmB; rw [@decide_eq_true _ (Classical.propDecidable _) ⟨h1, h2⟩, h]; rfl
end Go.Proofs.YtaebmliolpgmdaaGreat
set_option linter.unusedSimpArgs false
set_option linter.unusedVariables false
set_option maxRecDepth 100000
namespace Go.Proofs.YtaebmliolpgmdaaGreat
open Go.RowKit Go.Shelf

theorem spec_l8Bounds (v : Value) (l : List Int) (w : World) (B : Nat) (hr : Rd w B v l.length (icells .i64 l)) :
    Calls Tryz.prog 63 #[v] w fun e w' => e = .returned (.bool (b32 l)) ∧ w = w' := by
  obtain ⟨A, c, rfl, hn, hc, hcell⟩ := id hr
  have hC := fun W (h : w = W) => spec_l1All (.slice A l.length c) l (-2147483648) 2147483647 W B (h ▸ hr)
  unfold b32
  generalize allIn l (-2147483648) 2147483647 = R at *
  have HC := Lib.hid hC; clear hC hr hcell
  go_enter Tryz.func63, Tryz.ntmps63
  go_wp2_with (go_at_call 100; refine (HC.out _ rfl).mono ?_; rintro e w1 ⟨rfl, rfl⟩)
  go_ret
  exact ⟨rfl, rfl⟩
theorem impl_areSmall1 (n : Int) (w : World) : Calls Tryz.prog 102 #[.int .i64 n] w fun e w' => e = .returned (.bool (!inB n (-2147483648) 2147483647)) ∧ w = w' := by
  go_enter Tryz.func102, Tryz.ntmps102
  go_wp2_with (go_at_call 69; refine (impl_isSmallB n _).mono ?_; rintro e w' ⟨rfl, rfl⟩)
  go_ret
  exact ⟨rfl, rfl⟩
theorem impl_areSmall (v : Value) (l : List Int) (w : World) (hr : Rd w w.heap.size v l.length (icells .i64 l)) :
    Calls Tryz.prog 68 #[v] w fun e w' => e = .returned (.bool (b32 l)) ∧ Below w.heap.size w w' := by
  have hany := anyInt v l (fun n => !inB n (-2147483648) 2147483647) 102 (enters_of Tryz.func102 (by kernel_rfl) rfl) w hr (fun n W => impl_areSmall1 n W)
  rw [any_not] at hany
  obtain ⟨A, c, rfl, hn, hc, hcell⟩ := id hr
  unfold b32
  generalize allIn l (-2147483648) 2147483647 = x at *
  have Hany := hide hany; clear hr hcell hany
  go_enter Tryz.func68, Tryz.ntmps68
  go_wp2_with (go_at_call 51; refine (Hany.out).mono ?_; rintro e w' ⟨rfl, hb⟩)
  go_ret
  exact ⟨retB (by simp), hb⟩
theorem frP_no {a b c d e f g h i j k : Prop} {R : Bool} (hno : ¬ (a ∧ b ∧ c ∧ d ∧ e ∧ f ∧ g ∧ h ∧ i ∧ j ∧ k) → R = false) : (¬ a → R = false) ∧ (¬ b → R = false) ∧ (¬ c → R = false) ∧ (¬ d → R = false) ∧ (¬ e → R = false) ∧ (¬ f → R = false) ∧ (¬ g → R = false) ∧ (¬ h → R = false) ∧ (¬ i → R = false) ∧ (¬ j → R = false) ∧ (¬ k → R = false) :=
  ⟨fun n => hno fun q => n q.1, fun n => hno fun q => n q.2.1, fun n => hno fun q => n q.2.2.1, fun n => hno fun q => n q.2.2.2.1, fun n => hno fun q => n q.2.2.2.2.1, fun n => hno fun q => n q.2.2.2.2.2.1, fun n => hno fun q => n q.2.2.2.2.2.2.1, fun n => hno fun q => n q.2.2.2.2.2.2.2.1, fun n => hno fun q => n q.2.2.2.2.2.2.2.2.1, fun n => hno fun q => n q.2.2.2.2.2.2.2.2.2.1, fun n => hno fun q => n q.2.2.2.2.2.2.2.2.2.2⟩
theorem bf {b : Bool} (h : b = false) : ¬ b = true := by rw [h]; simp
theorem int_neV {a b : Int} (h : a ≠ b) : (a == b) = false := beq_eq_false_iff_ne.2 h
theorem int_eqV {a b : Int} (h : a = b) : (a == b) = true := beq_iff_eq.2 h
theorem bk_frame {w : World} {g : Nat} {t : TypeId} {a b c d e f h i j k l : Value} (hk : Bk w g t #[a, b, c, d, e, f, h, i, j, k, l]) : w.cell? ⟨g, 3, none⟩ = some d ∧ w.cell? ⟨g, 4, none⟩ = some e ∧ w.cell? ⟨g, 5, none⟩ = some f ∧ w.cell? ⟨g, 6, none⟩ = some h ∧ w.cell? ⟨g, 7, none⟩ = some i ∧ w.cell? ⟨g, 8, none⟩ = some j ∧ w.cell? ⟨g, 9, none⟩ = some k ∧ g < w.heap.size := ⟨hk.cell 3, hk.cell 4, hk.cell 5, hk.cell 6, hk.cell 7, hk.cell 8, hk.cell 9, hk.lt⟩
theorem bk_code {w : World} {g : Nat} {t : TypeId} {a b c d e : Value} (hk : Bk w g t #[a, b, c, d, e]) : w.cell? ⟨g, 1, none⟩ = some b ∧ w.cell? ⟨g, 2, none⟩ = some c ∧ w.cell? ⟨g, 3, none⟩ = some d ∧ g < w.heap.size := ⟨hk.cell 1, hk.cell 2, hk.cell 3, hk.lt⟩
end Go.Proofs.YtaebmliolpgmdaaGreat
