
/- The law of expressions in plain Lean: a text is read back, and what is read is written again. No condition. -/
import Derived.Test.YtheddnjhkcpmnaaGreatDoorRxT
set_option linter.unusedSimpArgs false
set_option linter.unusedVariables false
namespace Go.Proofs.YtheddnjhkcpmnaaGreatDoor
open Go.Lib

def joinW : List (List UInt8) → List UInt8
  | [] => []
  | [w] => w
  | w :: u :: ws => w ++ 32 :: joinW (u :: ws)
theorem joinW_cons {w : List UInt8} {ws : List (List UInt8)} (h : ws ≠ []) : joinW (w :: ws) = w ++ 32 :: joinW ws := by
  cases ws with
  | nil => exact absurd rfl h
  | cons => rfl
theorem spl_ne (s : List UInt8) : spl s ≠ [] := fun h => by have := (spl_len s).1; rw [h] at this; simp at this
theorem joinW_spl : ∀ (s : List UInt8), joinW (spl s) = s
  | [] => rfl
  | c :: r => by
    have ih := joinW_spl r
    by_cases hc : c = 32
    · subst hc
      simp only [spl, if_pos]
      rw [joinW_cons (spl_ne r), ih]; rfl
    · simp only [spl, if_neg hc]
      rcases hr : spl r with _ | ⟨a, t⟩
      · exact absurd hr (spl_ne r)
      · rw [hr] at ih
        show joinW ((c :: a) :: t) = c :: r
        cases t with
        | nil => rw [← ih]; rfl
        | cons u t => rw [← ih]; rfl
theorem spl_joinW : ∀ (ws : List (List UInt8)), ws ≠ [] → (∀ w ∈ ws, 32 ∉ w) → spl (joinW ws) = ws
  | [], h, _ => absurd rfl h
  | [w], _, hw => spl_no (hw w (by simp))
  | w :: u :: ws, _, hw => by
    show spl (w ++ 32 :: joinW (u :: ws)) = _
    rw [spl_cut (hw w (by simp)), spl_joinW (u :: ws) (by simp) (fun x hx => hw x (by simp [hx]))]
theorem exprF_join : ∀ (l : List P2) (k : Nat), l ≠ [] → exprF (k + 1) l = 32 :: joinW (l.map tokT)
  | [], _, h => absurd rfl h
  | [t], k, _ => by simp [exprF, joinW]
  | t :: u :: l, k, _ => by
    have := exprF_join (u :: l) (k + 1) (by simp)
    simp only [exprF] at this ⊢
    rw [this]
    simp [joinW]
theorem exprF0_join (l : List P2) : exprF 0 l = joinW (l.map tokT) := by
  cases l with
  | nil => rfl
  | cons t l =>
    cases l with
    | nil => simp [exprF, joinW]
    | cons u l =>
      have := exprF_join (u :: l) 0 (by simp)
      simp only [exprF] at this ⊢
      rw [this]
      simp [joinW]
theorem num10_no32 (m : Nat) : 32 ∉ num10 m := fun h => absurd (num10_digit m 32 h) (by decide)
theorem intT_no32 (n : Int) : 32 ∉ intT n := by
  unfold intT
  split
  · simp only [List.mem_cons, not_or]; exact ⟨by decide, num10_no32 _⟩
  · exact num10_no32 _
theorem opW_no32 (o : Int) : 32 ∉ opW o := by
  unfold opW
  repeat' split
  all_goals decide
theorem tokT_no32 (t : P2) : 32 ∉ tokT t := by
  unfold tokT
  split
  · exact intT_no32 _
  · split
    · simp only [List.mem_cons, not_or]; exact ⟨by decide, num10_no32 _⟩
    · split
      · simp only [List.mem_cons, not_or]; exact ⟨by decide, num10_no32 _⟩
      · exact opW_no32 _
theorem opOf_head {c : UInt8} {r : List UInt8} (h : c ≠ 43 ∧ c ≠ 42 ∧ c ≠ 47 ∧ c ≠ 60 ∧ c ≠ 61 ∧ c ≠ 105 ∧ c ≠ 114) (h2 : c = 45 → r ≠ []) : opOf (c :: r) = 0 := by
  unfold opOf
  rw [if_neg (fun e => h.1 (List.cons.inj e).1), if_neg (fun e => h2 (List.cons.inj e).1 (List.cons.inj e).2), if_neg (fun e => h.2.1 (List.cons.inj e).1), if_neg (fun e => h.2.2.1 (List.cons.inj e).1), if_neg (fun e => h.2.2.2.1 (List.cons.inj e).1), if_neg (fun e => h.2.2.2.2.1 (List.cons.inj e).1), if_neg (fun e => h.2.2.2.2.2.1 (List.cons.inj e).1), if_neg (fun e => h.2.2.2.2.2.2 (List.cons.inj e).1)]
theorem intT_head (n : Int) : ∃ c r, intT n = c :: r ∧ ((c = 45 ∧ r ≠ []) ∨ (48 ≤ c.toNat ∧ c.toNat ≤ 57)) := by
  unfold intT
  split
  · exact ⟨45, _, rfl, .inl ⟨rfl, num10_ne _⟩⟩
  · cases hn : num10 n.toNat with
    | nil => exact absurd hn (num10_ne _)
    | cons c r => exact ⟨c, r, rfl, .inr (num10_digit n.toNat c (by rw [hn]; simp))⟩
theorem digit_not {c : UInt8} (h : c = 45 ∨ (48 ≤ c.toNat ∧ c.toNat ≤ 57)) : (c ≠ 43 ∧ c ≠ 42 ∧ c ≠ 47 ∧ c ≠ 60 ∧ c ≠ 61 ∧ c ≠ 105 ∧ c ≠ 114) ∧ c ≠ 118 ∧ c ≠ 102 := by
  rcases h with rfl | h
  · decide
  · have g : ∀ d : UInt8, (d.toNat < 48 ∨ 57 < d.toNat) → c ≠ d := fun d hd e => by subst e; omega
    exact ⟨⟨g _ (by decide), g _ (by decide), g _ (by decide), g _ (by decide), g _ (by decide), g _ (by decide), g _ (by decide)⟩, g _ (by decide), g _ (by decide)⟩
theorem rdTok_tokT {t : P2} (h : tokOk 100 100 t = true) : rdTok (tokT t) = some t := by
  obtain ⟨o, n⟩ := t
  have hi : ∀ m : Int, 0 ≤ m → num10 m.toNat = intT m := fun m hm => (if_neg (by omega)).symm
  by_cases o1 : o = 1
  · subst o1
    have hb := inB_iff.1 (show inB n (-2147483648) 2147483647 = true from h)
    show rdTok (intT n) = _
    have hd : dec (intT n) = some n := dec_some.2 ⟨hb, rfl⟩
    obtain ⟨c, r, e, hc⟩ := intT_head n
    have hn := digit_not (c := c) (hc.imp (·.1) id)
    have h0 : opOf (c :: r) = 0 := opOf_head hn.1 (fun e => hc.elim (·.2) (fun g => by subst e; exact absurd g (by decide)))
    rw [e] at hd ⊢
    unfold rdTok
    rw [if_pos h0]
    show (if c = 118 then _ else if c = 102 then _ else _) = _
    rw [if_neg hn.2.1, if_neg hn.2.2, hd]
    simp only [rng]; rw [if_pos hb]
  by_cases o2 : o = 2
  · subst o2
    have hb := inB_iff.1 (show inB n 0 99 = true from h)
    show rdTok (118 :: num10 n.toNat) = _
    have hd : dec (num10 n.toNat) = some n := dec_some.2 ⟨by omega, (hi n hb.1).symm⟩
    unfold rdTok
    rw [if_pos (opOf_head (by decide) (fun e => absurd e (by decide)))]
    show rng 2 0 99 (dec (num10 n.toNat)) = _
    rw [hd]; simp only [rng]; rw [if_pos (by omega)]
  by_cases o3 : o = 11
  · subst o3
    have hb := inB_iff.1 (show inB n 0 99 = true from h)
    show rdTok (102 :: num10 n.toNat) = _
    have hd : dec (num10 n.toNat) = some n := dec_some.2 ⟨by omega, (hi n hb.1).symm⟩
    unfold rdTok
    rw [if_pos (opOf_head (by decide) (fun e => absurd e (by decide)))]
    show rng 11 0 99 (dec (num10 n.toNat)) = _
    rw [hd]; simp only [rng]; rw [if_pos (by omega)]
  have he : tokOk 100 100 ⟨o, n⟩ = (inB o 3 10 && decide (n = 0)) := by
    unfold tokOk; rw [if_neg o1, if_neg o2, if_neg o3]
  rw [he] at h
  have h' := Bool.and_eq_true _ _ ▸ h
  have hr := inB_iff.1 h'.1
  obtain rfl : n = 0 := of_decide_eq_true h'.2
  have hT : tokT ⟨o, 0⟩ = opW o := by unfold tokT; rw [if_neg o1, if_neg o2, if_neg o3]
  rw [hT]
  obtain rfl | rfl | rfl | rfl | rfl | rfl | rfl | rfl : o = 3 ∨ o = 4 ∨ o = 5 ∨ o = 6 ∨ o = 7 ∨ o = 8 ∨ o = 9 ∨ o = 10 := by omega
  all_goals rfl
theorem tokT_rdTok {w : List UInt8} {t : P2} (h : rdTok w = some t) : tokT t = w := by
  unfold rdTok at h
  split at h
  · unfold numTok at h
    cases w with
    | nil => cases h
    | cons c r =>
      simp only at h
      split at h
      · rename_i hc
        obtain ⟨n, hd, h1, h2, rfl⟩ := rng_tok h
        obtain ⟨_, rfl⟩ := dec_some.1 hd
        subst hc
        show 118 :: num10 n.toNat = _
        unfold intT; rw [if_neg (by omega)]
      · split at h
        · rename_i hc
          obtain ⟨n, hd, h1, h2, rfl⟩ := rng_tok h
          obtain ⟨_, rfl⟩ := dec_some.1 hd
          subst hc
          show 102 :: num10 n.toNat = _
          unfold intT; rw [if_neg (by omega)]
        · obtain ⟨n, hd, h1, h2, rfl⟩ := rng_tok h
          exact (dec_some.1 hd).2
  · rename_i hx
    cases h
    have hb := opOf_bd w
    have hT : tokT ⟨opOf w, 0⟩ = opW (opOf w) := by
      unfold tokT; rw [if_neg (show ¬ opOf w = 1 by omega), if_neg (show ¬ opOf w = 2 by omega), if_neg (show ¬ opOf w = 11 by omega)]
    rw [hT]
    clear hT hb
    unfold opOf at hx ⊢
    repeat' split
    all_goals first
      | (rename_i e; rw [e]; rfl)
      | (exfalso; apply hx; simp [*])
theorem rdAll_map : ∀ (l acc : List P2), (∀ t ∈ l, tokOk 100 100 t = true) → rdAll acc (l.map tokT) = some (acc ++ l)
  | [], acc, _ => by simp [rdAll]
  | t :: l, acc, h => by
    simp only [List.map_cons, rdAll, rdTok_tokT (h t (by simp))]
    rw [rdAll_map l _ (fun u hu => h u (by simp [hu]))]; simp
theorem rdAll_back : ∀ (ws : List (List UInt8)) (acc out : List P2), rdAll acc ws = some out → ∃ l, out = acc ++ l ∧ ws = l.map tokT ∧ ∀ t ∈ l, tokOk 100 100 t = true
  | [], acc, out, h => by simp only [rdAll, Option.some.injEq] at h; subst h; exact ⟨[], by simp, rfl, by simp⟩
  | w :: ws, acc, out, h => by
    simp only [rdAll] at h
    split at h
    · rename_i t ht
      obtain ⟨l, rfl, rfl, hl⟩ := rdAll_back ws _ _ h
      exact ⟨t :: l, by simp, by simp [tokT_rdTok ht], fun u hu => by
        rcases List.mem_cons.1 hu with rfl | hu
        · exact rdTok_ok ht
        · exact hl u hu⟩
    · cases h
/-- a text that is written is read back -/
theorem read_back {l : List P2} (h : exprOk l = true) (hl : (exprF 0 l).length ≤ 200) : rdE (exprF 0 l) = some l := by
  obtain ⟨h1, h2, h3⟩ := exprOk_iff.1 h
  have hne : l.map tokT ≠ [] := fun e => by have := congrArg List.length e; simp at this; subst this; simp at h2
  have hs : spl (exprF 0 l) = l.map tokT := by
    rw [exprF0_join]; exact spl_joinW _ hne (fun w hw => by obtain ⟨t, _, rfl⟩ := List.mem_map.1 hw; exact tokT_no32 t)
  unfold rdE
  rw [hs, if_neg (by rw [List.length_map]; omega), rdAll_map l [] h1]; rfl
/-- what is read is written again -/
theorem write_back {s : List UInt8} {l : List P2} (h : rdE s = some l) : exprOk l = true ∧ exprF 0 l = s := by
  unfold rdE at h
  split at h
  · cases h
  · rename_i hc
    obtain ⟨l', rfl, hw, hok⟩ := rdAll_back _ _ _ h
    have hlen : (spl s).length = l.length := by rw [hw, List.length_map]
    have h1 := (spl_len s).1
    refine ⟨exprOk_iff.2 ⟨hok, by omega, by omega⟩, ?_⟩
    rw [exprF0_join, ← hw, joinW_spl]
end Go.Proofs.YtheddnjhkcpmnaaGreatDoor
