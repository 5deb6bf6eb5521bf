
/- ReadExpr in plain Lean: tokens and lists of them. No condition. -/
import Derived.Test.YtheddnjhkcpmnaaGreatDoorRxP
set_option linter.unusedSimpArgs false
set_option linter.unusedVariables false
namespace Go.Proofs.YtheddnjhkcpmnaaGreatDoor
open Go.Lib

def rng (op lo hi : Int) : Option Int → Option P2
  | some n => if lo ≤ n ∧ n ≤ hi then some ⟨op, n⟩ else none
  | none => none
/-- the op of a word that stands alone, 0 where there is none -/
def opOf (w : List UInt8) : Int := if w = [43] then 3 else if w = [45] then 4 else if w = [42] then 5 else if w = [47] then 6 else if w = [60] then 7 else if w = [61] then 8 else if w = [105, 110] then 9 else if w = [114, 101, 99] then 10 else 0
noncomputable def numTok (w : List UInt8) : Option P2 := match w with
  | [] => none
  | c :: r => if c = 118 then rng 2 0 99 (dec r) else if c = 102 then rng 11 0 99 (dec r) else rng 1 (-2147483648) 2147483647 (dec w)
noncomputable def rdTok (w : List UInt8) : Option P2 := if opOf w = 0 then numTok w else some ⟨opOf w, 0⟩
theorem opOf_bd (w : List UInt8) : opOf w = 0 ∨ (3 ≤ opOf w ∧ opOf w ≤ 10) := by
  unfold opOf
  repeat' split
  all_goals omega
theorem rng_tok {op lo hi : Int} {o : Option Int} {t : P2} (h : rng op lo hi o = some t) : ∃ n, o = some n ∧ lo ≤ n ∧ n ≤ hi ∧ t = ⟨op, n⟩ := by
  cases o with
  | none => cases h
  | some n =>
    simp only [rng] at h
    split at h
    · rename_i hx; exact ⟨n, rfl, hx.1, hx.2, (Option.some.inj h).symm⟩
    · cases h
theorem rdTok_ok {w : List UInt8} {t : P2} (h : rdTok w = some t) : tokOk 100 100 t = true := by
  unfold rdTok at h
  split at h
  · unfold numTok at h
    cases w with
    | nil => cases h
    | cons c r =>
      simp only at h
      split at h
      · obtain ⟨n, _, h1, h2, rfl⟩ := rng_tok h
        exact (inB_iff.2 ⟨h1, by show n ≤ 99; omega⟩ : inB n 0 99 = true)
      · split at h
        · obtain ⟨n, _, h1, h2, rfl⟩ := rng_tok h
          exact (inB_iff.2 ⟨h1, by show n ≤ 99; omega⟩ : inB n 0 99 = true)
        · obtain ⟨n, _, h1, h2, rfl⟩ := rng_tok h
          exact inB_iff.2 ⟨h1, h2⟩
  · rename_i hx
    cases h
    have := opOf_bd w
    have he : tokOk 100 100 ⟨opOf w, 0⟩ = (inB (opOf w) 3 10 && decide ((0 : Int) = 0)) := by
      unfold tokOk; rw [if_neg (by show ¬ opOf w = 1; omega), if_neg (by show ¬ opOf w = 2; omega), if_neg (by show ¬ opOf w = 11; omega)]
    rw [he]
    have h2 : inB (opOf w) 3 10 = true := inB_iff.2 (by omega)
    rw [h2]; rfl
/-- what the reference makes of a number's word -/
theorem spec_v (r : List UInt8) : rng 2 0 99 (dec r) = if 0 ≤ digB r ∧ digB r ≤ 99 then some ⟨2, digB r⟩ else none := by
  by_cases h : 0 ≤ digB r ∧ digB r ≤ 99
  · obtain ⟨m, hm, hs⟩ := digB_pos h.1
    have hd : dec r = some (m : Int) := dec_some.2 ⟨by omega, by unfold intT; rw [if_neg (by omega), Int.toNat_natCast, hs]⟩
    rw [if_pos h, hd, hm]; simp only [rng]; rw [if_pos (by omega)]
  · rw [if_neg h]
    cases hd : dec r with
    | none => rfl
    | some n =>
      obtain ⟨h1, h2⟩ := dec_some.1 hd
      simp only [rng]
      rw [if_neg]
      intro hn
      have e : num10 n.toNat = r := by rw [← h2]; unfold intT; rw [if_neg (by omega)]
      have := digB_num (m := n.toNat) (by omega)
      rw [e] at this
      exact h (by omega)
theorem spec_f (r : List UInt8) : rng 11 0 99 (dec r) = if 0 ≤ digB r ∧ digB r ≤ 99 then some ⟨11, digB r⟩ else none := by
  have h := spec_v r
  cases hd : dec r with
  | none =>
    rw [hd] at h
    by_cases g : 0 ≤ digB r ∧ digB r ≤ 99
    · rw [if_pos g] at h; cases h
    · rw [if_neg g]; rfl
  | some n =>
    rw [hd] at h
    simp only [rng] at h ⊢
    by_cases g : 0 ≤ digB r ∧ digB r ≤ 99
    · rw [if_pos g] at h ⊢
      split at h
      · rename_i hx; rw [if_pos hx]; have := (Option.some.inj h); cases this; rfl
      · cases h
    · rw [if_neg g] at h ⊢
      split at h
      · cases h
      · rename_i hx; rw [if_neg hx]
theorem spec_neg (r : List UInt8) : rng 1 (-2147483648) 2147483647 (dec (45 :: r)) = if 0 < digB r ∧ digB r ≤ 2147483648 then some ⟨1, -digB r⟩ else none := by
  by_cases h : 0 < digB r ∧ digB r ≤ 2147483648
  · obtain ⟨m, hm, hs⟩ := digB_pos (by omega : 0 ≤ digB r)
    have hd : dec (45 :: r) = some (-(m : Int)) := dec_some.2 ⟨by omega, by unfold intT; rw [if_pos (by omega), show (- -(m : Int)).toNat = m by omega, hs]⟩
    rw [if_pos h, hd, hm]; simp only [rng]; rw [if_pos (by omega)]
  · rw [if_neg h]
    cases hd : dec (45 :: r) with
    | none => rfl
    | some n =>
      obtain ⟨h1, h2⟩ := dec_some.1 hd
      exfalso
      unfold intT at h2
      by_cases hn : n < 0
      · rw [if_pos hn] at h2
        have e := (List.cons.inj h2).2
        have := digB_num (m := (-n).toNat) (by omega)
        rw [e] at this
        exact h (by omega)
      · rw [if_neg hn] at h2
        have := num10_digit n.toNat 45 (by rw [h2]; simp)
        exact absurd this (by decide)
theorem spec_num {c : UInt8} {r : List UInt8} (hc : c ≠ 45) : rng 1 (-2147483648) 2147483647 (dec (c :: r)) = if 0 ≤ digB (c :: r) ∧ digB (c :: r) ≤ 2147483647 then some ⟨1, digB (c :: r)⟩ else none := by
  by_cases h : 0 ≤ digB (c :: r) ∧ digB (c :: r) ≤ 2147483647
  · obtain ⟨m, hm, hs⟩ := digB_pos h.1
    have hd : dec (c :: r) = some (m : Int) := dec_some.2 ⟨by omega, by unfold intT; rw [if_neg (by omega), Int.toNat_natCast, hs]⟩
    rw [if_pos h, hd, hm]; simp only [rng]; rw [if_pos (by omega)]
  · rw [if_neg h]
    cases hd : dec (c :: r) with
    | none => rfl
    | some n =>
      obtain ⟨h1, h2⟩ := dec_some.1 hd
      exfalso
      unfold intT at h2
      by_cases hn : n < 0
      · rw [if_pos hn] at h2
        exact hc (List.cons.inj h2).1.symm
      · rw [if_neg hn] at h2
        have := digB_num (m := n.toNat) (by omega)
        rw [h2] at this
        exact h (by omega)
/-- what the program makes of a number's text: Atoi, and Itoa says the same -/
def atoB (r : List UInt8) : Option Int := match atoiAll r with
  | .ok v => if intT v = r then some v else none
  | _ => none
theorem impl_num {op lo hi : Int} {r : List UInt8} (h1 : -2147483648 ≤ lo) (h2 : hi ≤ 2147483647) : rng op lo hi (dec r) = rng op lo hi (atoB r) := by
  cases hd : dec r with
  | some n =>
    obtain ⟨h3, rfl⟩ := dec_some.1 hd
    have : atoB (intT n) = some n := by
      unfold atoB; rw [atoiAll_intT (by omega) (by omega)]; simp
    rw [this]
  | none =>
    cases ha : atoB r with
    | none => rfl
    | some n =>
      have hn : intT n = r := by
        unfold atoB at ha
        split at ha
        · split at ha
          · rename_i hx; cases ha; exact hx
          · cases ha
        · cases ha
      simp only [rng]
      rw [if_neg]
      intro hx
      have := dec_some.2 ⟨(⟨by omega, by omega⟩ : -2147483648 ≤ n ∧ n ≤ 2147483647), hn⟩
      rw [hd] at this; cases this
theorem atoB_ok {r : List UInt8} {v : Int} (h : atoiAll r = .ok v) (h2 : intT v = r) : atoB r = some v := by unfold atoB; rw [h]; simp [h2]
theorem atoB_other {r : List UInt8} {v : Int} (h : atoiAll r = .ok v) (h2 : intT v ≠ r) : atoB r = none := by unfold atoB; rw [h]; simp [h2]
theorem atoB_syntax {r : List UInt8} (h : atoiAll r = .syntax) : atoB r = none := by unfold atoB; rw [h]
theorem atoB_range {r : List UInt8} (h : atoiAll r = .range) : atoB r = none := by unfold atoB; rw [h]
/-- the tokens of words, behind those that are read -/
noncomputable def rdAll : List P2 → List (List UInt8) → Option (List P2)
  | acc, [] => some acc
  | acc, w :: ws => match rdTok w with
    | some t => rdAll (acc ++ [t]) ws
    | none => none
theorem rdAll_some {acc : List P2} {ws : List (List UInt8)} {k : Nat} {t : P2} (hk : k < ws.length) (h : rdTok ws[k] = some t) : rdAll acc (ws.drop k) = rdAll (acc ++ [t]) (ws.drop (k + 1)) := by
  rw [List.drop_eq_getElem_cons hk]; simp only [rdAll, h]
theorem rdAll_none {acc : List P2} {ws : List (List UInt8)} {k : Nat} (hk : k < ws.length) (h : rdTok ws[k] = none) : rdAll acc (ws.drop k) = none := by
  rw [List.drop_eq_getElem_cons hk]; simp only [rdAll, h]
theorem rdAll_len : ∀ (ws : List (List UInt8)) (acc out : List P2), rdAll acc ws = some out → out.length = acc.length + ws.length
  | [], acc, out, h => by simp only [rdAll, Option.some.injEq] at h; subst h; simp
  | w :: ws, acc, out, h => by
    simp only [rdAll] at h
    split at h
    · have := rdAll_len ws _ _ h; simp at this ⊢; omega
    · cases h
noncomputable def rdE (s : List UInt8) : Option (List P2) := if 200 < s.length ∨ 12 < (spl s).length then none else rdAll [] (spl s)
noncomputable def rdL (s : List UInt8) : List P2 := (rdE s).getD []
noncomputable def rdB (s : List UInt8) : Bool := (rdE s).isSome
theorem rd_none {s : List UInt8} (h : rdE s = none) : rdL s = [] ∧ rdB s = false := by unfold rdL rdB; rw [h]; exact ⟨rfl, rfl⟩
theorem rd_some {s : List UInt8} {l : List P2} (h : rdE s = some l) : rdL s = l ∧ rdB s = true := by unfold rdL rdB; rw [h]; exact ⟨rfl, rfl⟩
theorem rdL_len (s : List UInt8) : (rdL s).length ≤ 12 := by
  unfold rdL rdE
  split
  · simp
  · rename_i h
    cases hr : rdAll [] (spl s) with
    | none => simp
    | some l => have := rdAll_len _ _ _ hr; simp at this ⊢; omega
end Go.Proofs.YtheddnjhkcpmnaaGreatDoor
