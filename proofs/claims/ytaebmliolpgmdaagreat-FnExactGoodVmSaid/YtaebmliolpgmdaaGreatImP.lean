
/- Instructions and sizes of an image: plain Lean. No condition. -/
import Derived.Test.YtaebmliolpgmdaaGreatP2
import Derived.Test.YtaebmliolpgmdaaGreatNdImage
set_option linter.unusedSimpArgs false
set_option linter.unusedVariables false
namespace Go.Proofs.YtaebmliolpgmdaaGreat

def hasNB (o : Int) : Bool := decide (o = 1 ∨ o = 2 ∨ o = 3 ∨ o = 4 ∨ o = 7 ∨ o = 10 ∨ o = 11 ∨ o = 12 ∨ o = 17)
def insOk (t : P2) : Bool := if t.o = 1 then smallB t.n else if t.o = 4 then inB t.n 3 8 else if hasNB t.o = true then inB t.n 0 1000000 else inB t.o 1 18 && decide (t.n = 0)
theorem op_ways {o : Int} (h : 1 ≤ o ∧ o ≤ 18) : o = 1 ∨ o = 2 ∨ o = 3 ∨ o = 4 ∨ o = 5 ∨ o = 6 ∨ o = 7 ∨ o = 8 ∨ o = 9 ∨ o = 10 ∨ o = 11 ∨ o = 12 ∨ o = 13 ∨ o = 14 ∨ o = 15 ∨ o = 16 ∨ o = 17 ∨ o = 18 := by omega
theorem insOk_bd {t : P2} (h : insOk t = true) : 1 ≤ t.o ∧ t.o ≤ 18 := by
  unfold insOk at h
  split at h
  · omega
  · split at h
    · omega
    · split at h
      · rename_i hh; unfold hasNB at hh; simp at hh; omega
      · simp at h; exact inB_iff.1 h.1
theorem hasNB_out {o : Int} (h : ¬ (1 ≤ o ∧ o ≤ 18)) : hasNB o = false := by unfold hasNB; exact decide_eq_false (by omega)
theorem insOk_out {o n : Int} (h : ¬ (1 ≤ o ∧ o ≤ 18)) : insOk ⟨o, n⟩ = false := by
  cases g : insOk ⟨o, n⟩ with
  | false => rfl
  | true => exact absurd (insOk_bd g) h
theorem insOk_num {n : Int} : insOk ⟨1, n⟩ = smallB n := rfl
theorem insOk_reckon {n : Int} : insOk ⟨4, n⟩ = inB n 3 8 := rfl
theorem insOk_n {o n : Int} (h1 : o ≠ 1) (h2 : o ≠ 4) (h : hasNB o = true) : insOk ⟨o, n⟩ = inB n 0 1000000 := by unfold insOk; rw [if_neg h1, if_neg h2, if_pos h]
theorem insOk_0 {o n : Int} (h1 : o ≠ 1) (h2 : o ≠ 4) (h : hasNB o = false) (hb : 1 ≤ o ∧ o ≤ 18) : insOk ⟨o, n⟩ = decide (n = 0) := by
  unfold insOk; rw [if_neg h1, if_neg h2, if_neg (by rw [h]; simp), inB_yes hb.1 hb.2, Bool.true_and]
def codeOk (c : CodeM) : Bool := inB c.qParams 0 2 && (inB c.qVars c.qParams 6 && (decide (c.qSites.length ≤ 4) && (inB c.qIns.length 1 300 && (decide (c.qRows.length ≤ 300) && c.qIns.all insOk))))
def sizedB (l : List CodeM) : Bool := inB l.length 1 5 && l.all codeOk
theorem codeOk_iff {c : CodeM} : codeOk c = true ↔ (0 ≤ c.qParams ∧ c.qParams ≤ 2) ∧ (c.qParams ≤ c.qVars ∧ c.qVars ≤ 6) ∧ c.qSites.length ≤ 4 ∧ (1 ≤ c.qIns.length ∧ c.qIns.length ≤ 300) ∧ c.qRows.length ≤ 300 ∧ ∀ t ∈ c.qIns, insOk t = true := by
  unfold codeOk
  simp only [Bool.and_eq_true, inB_iff, decide_eq_true_eq, List.all_eq_true]
  constructor
  · rintro ⟨a, b, c, ⟨d1, d2⟩, e, f⟩; exact ⟨a, b, c, ⟨by omega, by omega⟩, e, f⟩
  · rintro ⟨a, b, c, ⟨d1, d2⟩, e, f⟩; exact ⟨a, b, c, ⟨by omega, by omega⟩, e, f⟩
theorem sizedB_iff {l : List CodeM} : sizedB l = true ↔ (1 ≤ l.length ∧ l.length ≤ 5) ∧ ∀ c ∈ l, codeOk c = true := by
  unfold sizedB
  simp only [Bool.and_eq_true, inB_iff, List.all_eq_true]
  constructor
  · rintro ⟨⟨d1, d2⟩, f⟩; exact ⟨⟨by omega, by omega⟩, f⟩
  · rintro ⟨⟨d1, d2⟩, f⟩; exact ⟨⟨by omega, by omega⟩, f⟩
def takes (l : List CodeM) (t : P2) : Int := if t.o = 3 ∨ t.o = 8 ∨ t.o = 9 ∨ t.o = 11 ∨ t.o = 13 ∨ t.o = 15 then 1 else if t.o = 4 then 2 else if t.o = 7 then (l.getD t.n.toNat ⟨0, 0, [], [], []⟩).qParams else 0
def puts (t : P2) : Int := if t.o = 1 ∨ t.o = 2 ∨ t.o = 5 ∨ t.o = 6 ∨ t.o = 4 ∨ t.o = 7 then 1 else 0
theorem takes_call {l : List CodeM} {k : Nat} (h : k < l.length) : takes l ⟨7, k⟩ = l[k].qParams := by
  unfold takes; simp [List.getD, List.getElem?_eq_getElem h]
def tpOk (l : List CodeM) (t : P2) : Bool := sizedB l && (insOk t && decide (t.o ≠ 7 ∨ t.n < l.length))
def tpF (l : List CodeM) (t : P2) : Int × Int × Bool := if tpOk l t = true then (takes l t, puts t, true) else (0, 0, false)
end Go.Proofs.YtaebmliolpgmdaaGreat
