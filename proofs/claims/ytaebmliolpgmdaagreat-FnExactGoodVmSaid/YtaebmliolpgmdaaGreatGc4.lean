
/- What the word of a code is in each case; that the heights' walk has what it wants: plain Lean. No condition. -/
import Derived.Test.YtaebmliolpgmdaaGreatHt2
set_option linter.unusedSimpArgs false
set_option linter.unusedVariables false
set_option maxRecDepth 100000
namespace Go.Proofs.YtaebmliolpgmdaaGreat
open Go.RowKit

theorem rows_pad {many : Int} : ∀ (l : List R3) (a : Int), rowsOk many a l = true → ∀ k (h : k < l.length), 0 ≤ l[k].p ∧ l[k].p ≤ many - 1 := by
  intro l
  induction l with
  | nil => intro a _ k h; simp at h
  | cons r l ih =>
    intro a h k hk
    by_cases hr : rowOk a many r
    · have h2 := rowsOk_yes (many := many) (a := a) (l := r :: l) (k := 0) (by simp) hr
      simp only [List.drop_zero, List.getElem_cons_zero, Nat.zero_add, List.drop_succ_cons] at h2
      rw [h2] at h
      cases k with
      | zero => exact ⟨hr.2.2.2.1, hr.2.2.2.2⟩
      | succ k => simpa using ih _ h k (by simpa using hk)
    · have h2 := rowsOk_no (many := many) (a := a) (l := r :: l) (k := 0) (by simp) hr
      simp only [List.drop_zero] at h2
      rw [h2] at h; cases h
theorem fit_of {l : List CodeM} {c : CodeM} (hs : sizedB l = true) (hc : c ∈ l) (h1 : c.qIns.all (namedI l.length c) = true) (h3 : goesL c.qIns.length 0 c.qIns = true) (h4 : rowsOk c.qIns.length 0 c.qRows = true) : Fit l c := by
  obtain ⟨_, hall⟩ := sizedB_iff.1 hs
  obtain ⟨_, _, _, hN, hR, hI⟩ := codeOk_iff.1 (hall c hc)
  have hins : ∀ k (h : k < c.qIns.length), insOk c.qIns[k] = true := fun k h => hI _ (List.getElem_mem h)
  have htk : ∀ k (h : k < c.qIns.length), c.qIns[k].o = 7 → 0 ≤ c.qIns[k].n ∧ c.qIns[k].n < l.length := fun k h h7 => by
    have e1 := hins k h
    have e2 := List.all_eq_true.1 h1 _ (List.getElem_mem h)
    unfold namedI at e2
    generalize c.qIns[k] = t at *
    obtain ⟨o, n⟩ := t
    dsimp only at h7
    subst h7
    rw [named_call] at e2
    exact ⟨insOk_7 e1, of_decide_eq_true e2⟩
  refine ⟨hN.1, hN.2, hins, htk, fun k h => ?_, fun k h n hn => ?_, fun k h => rows_pad _ _ h4 k h, hR⟩
  · have h7 := htk k h
    generalize c.qIns[k] = t at *
    unfold takes
    split
    · omega
    split
    · omega
    split
    · next ho =>
      obtain ⟨g1, g2⟩ := h7 ho
      have hk : t.n.toNat < l.length := by omega
      have := (codeOk_iff.1 (hall _ (List.getElem_mem hk))).1
      simpa [List.getD, List.getElem?_eq_getElem hk] using this
    · omega
  · have := goesL_all c.qIns 0 h3 k h n (by rw [Nat.zero_add]; exact hn)
    exact this
section
variable {l : List CodeM} {c : CodeM}
theorem codeN_1 (h1 : c.qIns.all (namedI l.length c) = false) : codeN l c = 1 := by unfold codeN; rw [if_pos h1]
theorem codeN_2 (h1 : c.qIns.all (namedI l.length c) = true) (h2 : c.qSites.all (siteI l) = false) : codeN l c = 2 := by unfold codeN; rw [if_neg (by rw [h1]; simp), if_pos h2]
theorem codeN_3 (h1 : c.qIns.all (namedI l.length c) = true) (h2 : c.qSites.all (siteI l) = true) (h3 : goesL c.qIns.length 0 c.qIns = false) : codeN l c = 3 := by unfold codeN; rw [if_neg (by rw [h1]; simp), if_neg (by rw [h2]; simp), if_pos h3]
theorem codeN_4 (h1 : c.qIns.all (namedI l.length c) = true) (h2 : c.qSites.all (siteI l) = true) (h3 : goesL c.qIns.length 0 c.qIns = true) (h4 : rowsOk c.qIns.length 0 c.qRows = false) : codeN l c = 4 := by unfold codeN; rw [if_neg (by rw [h1]; simp), if_neg (by rw [h2]; simp), if_neg (by rw [h3]; simp), if_pos h4]
theorem codeN_5 (h1 : c.qIns.all (namedI l.length c) = true) (h2 : c.qSites.all (siteI l) = true) (h3 : goesL c.qIns.length 0 c.qIns = true) (h4 : rowsOk c.qIns.length 0 c.qRows = true) (h5 : (waysOf l c).bad) : codeN l c = 5 := by
  unfold codeN; rw [if_neg (by rw [h1]; simp), if_neg (by rw [h2]; simp), if_neg (by rw [h3]; simp), if_neg (by rw [h4]; simp), Ways.heights_none h5]
theorem codeN_h {hs : List Int} (h1 : c.qIns.all (namedI l.length c) = true) (h2 : c.qSites.all (siteI l) = true) (h3 : goesL c.qIns.length 0 c.qIns = true) (h4 : rowsOk c.qIns.length 0 c.qRows = true) (h5 : HInv (waysOf l c) hs []) : codeN l c = codeH c hs := by
  unfold codeN; rw [if_neg (by rw [h1]; simp), if_neg (by rw [h2]; simp), if_neg (by rw [h3]; simp), if_neg (by rw [h4]; simp), Ways.heights_some h5]
end
theorem codeH_6 {c : CodeM} {hs : List Int} (h : anyAt (fun a v t => bad6 c.qRows a v t) 0 hs c.qIns = true) : codeH c hs = 6 := by unfold codeH; rw [if_pos h]
theorem codeH_7 {c : CodeM} {hs : List Int} (h : anyAt (fun a v t => bad6 c.qRows a v t) 0 hs c.qIns = false) (h2 : anyAt (fun _ v t => bad7 v t) 0 hs c.qIns = true) : codeH c hs = 7 := by unfold codeH; rw [if_neg (by rw [h]; simp), if_pos h2]
theorem codeH_0 {c : CodeM} {hs : List Int} (h : anyAt (fun a v t => bad6 c.qRows a v t) 0 hs c.qIns = false) (h2 : anyAt (fun _ v t => bad7 v t) 0 hs c.qIns = false) : codeH c hs = 0 := by unfold codeH; rw [if_neg (by rw [h]; simp), if_neg (by rw [h2]; simp)]
/-- the cases of the first test of a place -/
theorem bad6_neg {rows : List R3} {a v : Int} {t : P2} (h : v < 0) : bad6 rows a v t = false := by unfold bad6; rw [decide_eq_false (by omega)]; rfl
theorem bad6_calm {rows : List R3} {a v : Int} {t : P2} (h : raiseB t.o = false) : bad6 rows a v t = false := by unfold bad6; rw [h]; simp
theorem bad6_out {rows : List R3} {a v : Int} {t : P2} (h : 0 ≤ v) (h2 : raiseB t.o = true) (h3 : rowIx a rows 0 < 0) : bad6 rows a v t = true := by unfold bad6 padLow; rw [decide_eq_true h, h2, decide_eq_true h3]; rfl
theorem bad6_row {rows : List R3} {a v : Int} {t : P2} {k : Nat} (h : 0 ≤ v) (h2 : raiseB t.o = true) (h3 : rowIx a rows 0 = k) (hk : k < rows.length) : bad6 rows a v t = decide (rows[k].p ≤ a) := by
  unfold bad6 padLow; rw [decide_eq_true h, h2, h3, decide_eq_false (by omega)]
  simp [List.getD, List.getElem?_eq_getElem hk]
theorem bad7_flat {v : Int} {t : P2} (h : flatB t.o = true) : bad7 v t = decide (0 < v) := by unfold bad7; rw [h]; rfl
theorem bad7_no {v : Int} {t : P2} (h : flatB t.o = false) : bad7 v t = false := by unfold bad7; rw [h]; rfl
theorem flat_yes {o : Int} (h : flatB o = true) : o = 18 ∨ o = 16 ∨ o = 14 ∨ o = 17 := of_decide_eq_true h
theorem flat_no {o : Int} (h : flatB o = false) : o ≠ 18 ∧ o ≠ 16 ∧ o ≠ 14 ∧ o ≠ 17 := by have := of_decide_eq_false h; omega
end Go.Proofs.YtaebmliolpgmdaaGreat
