
/- slices.Equal of notes: what the Go text returns; two lists alike by a test. No condition. -/
import Derived.Test.YtaebmliolpgmdaaSvB
import Derived.Test.YtaebmliolpgmdaaNoteM
set_option linter.unusedSimpArgs false
set_option linter.unusedVariables false
set_option maxRecDepth 100000
namespace Go.Proofs.Ytaebmliolpgmdaa
open Go.RowKit

/-- two lists are as long, and each pair is alike by p -/
def all2 {α : Type} (p : α → α → Bool) : List α → List α → Bool
  | [], [] => true
  | a :: l, b :: m => p a b && all2 p l m
  | _, _ => false
theorem all2_len {α : Type} {p : α → α → Bool} : ∀ {l m : List α}, l.length ≠ m.length → all2 p l m = false := by
  intro l
  induction l with
  | nil => intro m h; cases m with
    | nil => simp at h
    | cons b m => rfl
  | cons a l ih =>
    intro m h
    cases m with
    | nil => rfl
    | cons b m => simp only [all2]; rw [ih (by simpa using h)]; simp
theorem all2_step {α : Type} {p : α → α → Bool} {l m : List α} {k : Nat} (h1 : k < l.length) (h2 : k < m.length) : all2 p (l.drop k) (m.drop k) = (p l[k] m[k] && all2 p (l.drop (k + 1)) (m.drop (k + 1))) := by
  rw [List.drop_eq_getElem_cons h1, List.drop_eq_getElem_cons h2]; rfl
theorem all2_end {α : Type} {p : α → α → Bool} {l m : List α} (h : l.length = m.length) : all2 p (l.drop l.length) (m.drop l.length) = true := by
  rw [List.drop_length, h, List.drop_length]; rfl
def r3eq (a b : R3) : Bool := decide (a.f = b.f ∧ a.t = b.t ∧ a.p = b.p)
theorem three_at {w : World} {B n c k : Nat} {A : Option Addr} {l : List R3} (h : Rd w B (.slice A n c) n (rcells l)) (hk : k < l.length) :
    ∃ b o, A = some ⟨b, o, none⟩ ∧ b < B ∧ w.cell? ⟨b, o + k * 3, none⟩ = some (.int .i64 l[k].f) ∧ w.cell? ⟨b, o + k * 3 + 1, none⟩ = some (.int .i64 l[k].t) ∧ w.cell? ⟨b, o + k * 3 + 2, none⟩ = some (.int .i64 l[k].p) := by
  obtain ⟨g0, g1, g2⟩ := rcells_get l k hk
  obtain ⟨b, o, rfl, hbB, s0⟩ := h.at3 g0
  obtain ⟨_, _, e, _, s1⟩ := h.at3 g1
  cases e
  obtain ⟨_, _, e, _, s2⟩ := h.at3 g2
  cases e
  rw [← Nat.add_assoc] at s1 s2
  exact ⟨b, o, rfl, hbB, s0, s1, s2⟩
set_option maxHeartbeats 800000 in
theorem slices_EqualN (v v2 : Value) (xs ys : List R3) (w : World) (B B2 : Nat) (hr : Rd w B v xs.length (rcells xs)) (hr2 : Rd w B2 v2 ys.length (rcells ys)) :
    Calls Try.prog 46 #[v, v2] w fun e w' => e = .returned (.bool (all2 r3eq xs ys)) ∧ ∃ q, w' = w.drewN q := by
  obtain ⟨A, c, rfl, hn, hc, hcell⟩ := id hr
  obtain ⟨A2, c2, rfl, hn2, hc2, hcell2⟩ := id hr2
  have hl : xs.length ≤ 9223372036854775807 := by unfold maxLen at hc; omega
  have hl2 : ys.length ≤ 9223372036854775807 := by unfold maxLen at hc2; omega
  have Hr := hide hr; have Hr2 := hide hr2
  clear hr hr2 hcell hcell2 hn hn2 hc hc2
  by_cases hne : xs.length = ys.length
  · have hst := fun k h1 h2 => all2_step (p := r3eq) (l := xs) (m := ys) (k := k) h1 h2
    have hen := all2_end (p := r3eq) hne
    have h0 : all2 r3eq (xs.drop 0) (ys.drop 0) = all2 r3eq xs ys := rfl
    generalize all2 r3eq xs ys = R at *
    have Hst := Lib.hid hst; have Hen := hide hen; have H0 := hide h0; have Hne := hide hne; clear hst hen h0
    rw [← hne] at hl2 Hr2 ⊢
    clear hne
    go_enter Try.func46, Try.ntmps46
    go_wp2
    go_loopw [13] (fun i wr => ∃ k q : Nat, k ≤ xs.length ∧ i = .int .i64 k ∧ wr = w.drewN q ∧ all2 r3eq (xs.drop k) (ys.drop k) = R) (fun i _ => xs.length - (intOf i).toNat)
    case atStart => exact ⟨0, 0, by omega, rfl, rfl, H0.out⟩
    case round =>
      obtain ⟨k, q, hk, rfl, rfl, htk⟩ := hrel
      by_cases hlt : k < xs.length
      · have hky : k < ys.length := by rw [← Hne.out]; exact hlt
        obtain ⟨b, o, rfl, hbB, s0, s1, s2⟩ := three_at Hr.out hlt
        obtain ⟨b2, o2, rfl, hbB2, t0, t1, t2⟩ := three_at Hr2.out hky
        rw [Hst.out k hlt hky] at htk
        generalize xs[k] = x at *
        generalize ys[k] = y at *
        clear Hr Hr2 hky
        obtain ⟨x0, x1, x2⟩ := x
        obtain ⟨y0, y1, y2⟩ := y
        dsimp only at *
        by_cases hxy : x0 = y0 ∧ x1 = y1 ∧ x2 = y2
        · have hd : r3eq ⟨x0, x1, x2⟩ ⟨y0, y1, y2⟩ = true := decide_eq_true hxy
          rw [hd, Bool.true_and] at htk
          obtain ⟨rfl, rfl, rfl⟩ := hxy
          have Htk := hide htk; clear htk hd
          go_wp2
          go_quiet (fail)
          go_wp2
          go_roundw
          case rel => exact ⟨k + 1, _, by omega, by go_num, rfl, Htk.out⟩
          case measure => simp [intOf]; omega
        · have hd : r3eq ⟨x0, x1, x2⟩ ⟨y0, y1, y2⟩ = false := decide_eq_false hxy
          rw [hd, Bool.false_and] at htk
          have Htk := hide htk
          clear htk hd
          by_cases e0 : x0 = y0
          · by_cases e1 : x1 = y1
            · have e2 : x2 ≠ y2 := fun e2 => hxy ⟨e0, e1, e2⟩
              have b2 : (x2 == y2) = false := beq_eq_false_iff_ne.2 e2
              subst e0 e1
              clear hxy e2
              go_wp2
              go_quiet (fail)
              go_wp2
              go_ret
              exact ⟨retB Htk.out, _, World.drewN_drewN _ _ _⟩
            · have b1 : (x1 == y1) = false := beq_eq_false_iff_ne.2 e1
              subst e0
              clear hxy e1
              go_wp2
              go_quiet (fail)
              go_wp2
              go_ret
              exact ⟨retB Htk.out, _, World.drewN_drewN _ _ _⟩
          · have b0 : (x0 == y0) = false := beq_eq_false_iff_ne.2 e0
            clear hxy e0
            go_wp2
            go_quiet (fail)
            go_wp2
            go_ret
            exact ⟨retB Htk.out, _, World.drewN_drewN _ _ _⟩
      · obtain rfl : k = xs.length := by omega
        have Hall := hide (Hen.out.symm.trans htk); clear htk
        go_wp2
        go_ret
        exact ⟨retB Hall.out, _, rfl⟩
  · have hxb : ((xs.length : Int) != ys.length) = true := by rw [bne_iff_ne]; omega
    have Hn := hide (all2_len (p := r3eq) hne); clear hne
    go_enter Try.func46, Try.ntmps46
    go_wp2
    go_ret
    exact ⟨retB Hn.out.symm, 0, rfl⟩
end Go.Proofs.Ytaebmliolpgmdaa
