
/- FnHeights: for every input the call returns true, the argument and the listed variable read afterwards as before. The row's condition: the listed variables hold what the program lays; the card ties that to the program's text. -/
import Derived.Test.YtgkjakoagdkpcaaGreatDoorRows
import Derived.Test.YtgkjakoagdkpcaaGreatDoorCards
import Derived.Test.YtgkjakoagdkpcaaGreatDoorTie
import Derived.Test.YtgkjakoagdkpcaaGreatDoorLai
import Derived.Test.YtgkjakoagdkpcaaGreatDoorFnHeightsL
import Derived.WalkKit
import Derived.ProofKit
import Derived.OpenShut
import Derived.ChangeOld
import Derived.ChangeVars
import Derived.Handed
import Derived.LaidLaws
import Derived.SevenTiedAt
import Derived.Below
set_option linter.unusedVariables false
set_option linter.unusedSimpArgs false
namespace Go.Proofs.YtgkjakoagdkpcaaGreatDoor.fnHeights
open Go.ChangeShapes Go.WideShapes Go.ChangeAt Go.RowKit
theorem own : ownKnob Tryz.prog.godebug = none := by kernel_rfl
theorem laidOut : laidOutB Tryz.prog = true := by kernel_rfl
noncomputable def laidWorld (os : Os) : World := setB 0 (insW.map Value.string).toArray (tabWorld os)
theorem laidWorld_met (os : Os) (args : Array Value) : laidMet Tryz.prog Rows.fnHeightsRow.laid ((laidWorld os).forCall (fun _ _ => 0) ⟨#[], args, []⟩).memory :=
  laidMet_of_run' 8 (by kernel_rfl) (by kernel_rfl)
theorem words_of_laid {W : World} (h : laidMet Tryz.prog Rows.fnHeightsRow.laid W) : W.var? Tryz.prog "loop.example/g00745/impl.insWords" = some (insW.map Value.string).toArray :=
  words_of_head (g := 0) (t := 88) (e := 9) (n := 19) (by kernel_rfl) (by kernel_rfl) (by kernel_rfl) (by kernel_rfl) (by kernel_rfl) (by kernel_rfl) h.tail.tail.tail
abbrev wordsH {H : Type} : DataW H := wordsData insW
theorem reads_words {H : Type} (enc : TypeId × Value → H) (W : World) (sp : Nat → Bool) : DataW.trod enc Tryz.prog W 0 sp true 3 88 (insW.map Value.string).toArray.toList = some (wordsH, []) := by kernel_rfl
set_option maxRecDepth 100000 in
theorem lifted (os : Os) (started : os.Started) (H : Type) (enc : TypeId × Value → H) :
    ReturnsInHanded {} Tryz.checked os 3 .any (fun w args => (Rows.fnHeightsSpec.pre enc Tryz.prog Tryz.f3 Rows.fnHeightsRow.domain false w args ∧ laidMet Tryz.prog Rows.fnHeightsRow.laid w) ∧ sizedMet enc Tryz.prog Tryz.f3 (OpenSpec.ofChange Rows.fnHeightsSpec) false w args)
      (Rows.fnHeightsSpec.post enc Tryz.prog Tryz.f3 false true false false) := by
  refine returnsInHanded_of_change_and (C := Tryz.checked) (X := fun w _ => laidMet Tryz.prog Rows.fnHeightsRow.laid w) (fun _ _ _ hh h => h.of_heap hh) own started (by kernel_rfl) Tryz.func3
    (ChangeSpec.witness_at (enc := enc) (C := Tryz.checked) (os := os) (X := fun w _ => laidMet Tryz.prog Rows.fnHeightsRow.laid w) false (laidWorld os) #[.slice none 0 0, .slice none 0 0] 8 rfl (by kernel_rfl) (by kernel_rfl) (by kernel_rfl) (by kernel_rfl) (by kernel_rfl) (laidWorld_met os _)) ?_
  intro W base args ds gs before hval0 hW _ _ hL _
  have hval : ∀ (j : Nat) t v, Tryz.f3.params[j]? = some t → args[j]? = some v → Value.okWide Tryz.prog W .any base t v := hval0
  have hW' := hW
  obtain ⟨p, q, hA0, hV0, rfl, hfz, hnd⟩ := hW
  have hA : DataW.TrodAll enc Tryz.prog W 0 (fun _ => true) true Tryz.f3.params.toList args.toList ds p := hA0
  rw [Tryz.params3] at hA hval
  obtain ⟨v0, vs0, d0, ds0, p0, q0, hargs, rfl, rfl, h0, r0⟩ := trodAll_cons hA
  obtain ⟨v1, vs1, d1, ds1, p1, q1, rfl, rfl, rfl, h1, r1⟩ := trodAll_cons r0
  obtain ⟨rfl, rfl, rfl⟩ := trodAll_nil r1
  obtain rfl : args = #[v0, v1] := by cases args; simp_all
  have hV : DataW.TrodVars enc Tryz.prog W (fun _ => true) ["loop.example/g00745/impl.insWords"] gs q := hV0
  have hww := words_of_laid hL
  obtain ⟨g, t, cs, fuel, d, p', rfl, hg, ht, hvar, hd, rfl⟩ := trodVars_one hV
  obtain rfl : 0 = g := Option.some.inj ((show Tryz.prog.globalNamed "loop.example/g00745/impl.insWords" = some 0 by kernel_rfl).symm.trans hg)
  obtain rfl : 88 = t := Option.some.inj ((show (Tryz.prog.globals[0]?).map (·.type) = some 88 by kernel_rfl).symm.trans ht)
  obtain rfl : cs = (insW.map Value.string).toArray := Option.some.inj (hvar.symm.trans hww)
  obtain ⟨rfl, rfl⟩ := DataW.Trod.unique (v := .agg (insW.map Value.string).toArray) ⟨fuel, hd⟩ ⟨3, reads_words enc W _⟩
  obtain ⟨hp, hgo⟩ := p10_of_laid hL
  have k0 := h0
  have lt0 : ∀ x ∈ p0, x.block < W.heap.size := by obtain ⟨m, hm⟩ := k0; exact DataW.trod_lt m _ _ _ hm
  have i0 := open_u8s (hval 0 22 v0 rfl rfl) k0 lt0
  have k1 := h1
  have lt1 : ∀ x ∈ p1, x.block < W.heap.size := by obtain ⟨m, hm⟩ := k1; exact DataW.trod_lt m _ _ _ hm
  have i1 := open_u8s (hval 1 22 v1 rfl rfl) k1 lt1
  clear hA0 hV0 hval0
  refine (law_FnHeights W v0 i0 v1 i1 hp hgo ⟨var_old hg hww, fun k hk => by simpa [List.getElem?_eq_getElem hk] using World.var?_cell hg hww k⟩).mono fun e W' ⟨he, bel⟩ => ?_
  subst he
  have hw2 := var?_below bel hg (var_old hg hww) hww
  have hvars : ∀ sp : Nat → Bool, DataW.TrodVars enc Tryz.prog W' sp ["loop.example/g00745/impl.insWords"] [wordsH] (MemPlace.row ⟨0, 0, none⟩ (insW.map Value.string).toArray.size ++ [] ++ []) := fun sp =>
    ⟨_, _, _, 3, [], [], hg, ht, hw2, reads_words enc W' sp, rfl, rfl⟩
  exact ⟨_, rfl, _, _, _, [], _, _, hW', trodAll_mk1 (shut_bool Tryz.underlying4 _), (trodAll_cons_mk (Below.trod laidOut (by kernel_rfl) (of_decide_eq_true (by kernel_rfl)) k0 bel lt0) (trodAll_cons_mk (Below.trod laidOut (by kernel_rfl) (of_decide_eq_true (by kernel_rfl)) k1 bel lt1) trodAll_mk0)), (hvars _), bel.frame _, fun h => by cases h⟩
theorem over : Rows.fnHeightsRow.holds Tryz.pinned (OpenSpec.ofChange Rows.fnHeightsSpec) :=
  OpenClaim.holds_of_wide 3 Tryz.f3 rfl rfl rfl rfl rfl rfl rfl ⟨rfl, rfl, rfl, rfl, rfl⟩ rfl rfl rfl rfl rfl (by kernel_rfl) Tryz.func3 (by kernel_rfl)
    (of_decide_eq_true (by kernel_rfl)) (by unfold Func.isWrapper; first | (rw [if_pos (by decide +kernel)]; kernel_rfl) | (rw [if_neg (by decide +kernel)]; exact ⟨rfl, rfl⟩))
    (fun os started H enc _ => lifted os started H enc)
/-- the statement -/
theorem proved : Rows.FnHeightsCardSaid :=
  Claim7.holds_tied_plain_at .later [] [.data, .data, .data, .widerDeep] true (true, "fc618d0e096b03dcad1527f872f0e98dfe28c30d796d180038c525c7714a1a05") false
    over (fun _ h => by cases h) (by kernel_rfl) (fun _ h => by cases h) fnHeights_row_tie rfl ⟨rfl, rfl⟩ (by kernel_rfl) rfl
    (fun f fn hf hfn => by
      obtain rfl : f = 3 := Option.some.inj ((show Tryz.prog.funcNamed "loop.example/g00745/laws.FnHeights" = some 3 by kernel_rfl).symm.trans hf) |>.symm
      obtain rfl : fn = Tryz.f3 := (Option.some.inj (Tryz.func3.symm.trans hfn)).symm
      exact ⟨by kernel_rfl, fun j t ht => by
        rw [Tryz.params3] at ht
        have h3 : t = 22 := by
          rcases j with _ | _ | j
          · simpa using ht.symm
          · simpa using ht.symm
          · simp at ht
        subst h3
        exact (show Tryz.prog.wantsStandIn 22 = false by kernel_rfl)⟩)
    (by kernel_rfl)
#print axioms proved
end Go.Proofs.YtgkjakoagdkpcaaGreatDoor.fnHeights
