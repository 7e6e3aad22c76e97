/- The law eddylaw38.DiffTexts returns true for all changes and every text that are together of bulk at most 1048576, and leaves its arguments as they were, where the package-level variables of Go's library and of the program that the row lists hold what the program's text lays in them. -/
import Derived.Test.YtagfmppjlfhmeaaGreatDoorPkV
import Derived.Test.YtagfmppjlfhmeaaGreatDoorPkC
import Derived.Test.YtagfmppjlfhmeaaGreatDoorPkZ
import Derived.Test.YtagfmppjlfhmeaaGreatDoorDp27
import Derived.Test.YtagfmppjlfhmeaaGreatDoorCards
import Derived.Test.YtagfmppjlfhmeaaGreatDoorTie
import Derived.SevenTiedAt
import Derived.ChangeMaps5

namespace Go.Proofs.YtagfmppjlfhmeaaGreatDoor
open Go Go.RowKit Go.Dl Go.ChangeShapes Go.ChangeMaps
set_option maxRecDepth 100000 in
theorem diffTextsUpto_lifted (os : Os) (started : os.Started) (H : Type) (enc : TypeId × Value → H) (F : Stop.Interp) :
    ReturnsInHanded {} Tryz.checked os 4 .any (fun w args => ((Rows.OpenSpec.upto Rows.diffTextsSpec).pre enc Tryz.prog Tryz.f4 [] false w args ∧ laidMetH Tryz.prog laidL w) ∧ sizedMet enc Tryz.prog Tryz.f4 (Rows.OpenSpec.upto Rows.diffTextsSpec) false w args)
      (((Rows.OpenSpec.upto Rows.diffTextsSpec).at F).post enc Tryz.prog Tryz.f4 false true false false) := by
  refine law_lift_upto (C := Tryz.checked) (k := Rows.uptoSmall) (s := Rows.diffTextsSpec) F 4 rfl Tryz.own started (by kernel_rfl) Tryz.func4
    (witness_upto (enc := enc) (C := Tryz.checked) (os := os) (k := Rows.uptoSmall) (X := fun w _ => laidMetH Tryz.prog laidL w) rfl false (World.laidAll Tryz.prog os laidL) #[.slice none 0 0, .string ByteArray.empty] 16 (World.laidAll_os _ _ _)
      (World.shaped_of_ZipB (by kernel_rfl) (by kernel_rfl)) (by kernel_rfl) (x := ([.nil, .lit (.string [])], [], [])) (by kernel_rfl) (by kernel_rfl) (by kernel_rfl) (by kernel_rfl)
      (by rw [MakeChecks.laidMetH_plain _ _ _ plainL]; exact laidMet_laidAll _ (by kernel_rfl) (by kernel_rfl)))
    Tryz.laidOut (by kernel_rfl) (by kernel_rfl) rfl Tryz.underlying4 rfl ?_ (fun _ hL hsh => gok_of hL hsh) ?_
  · intro ds hds
    match ds, hds with
    | [d1, d2], _ => rfl
  · intro W base vs ds ps dargs hval hA hk hpw h
    have hval : ∀ (j : Nat) t v, ([23, 9] : List TypeId)[j]? = some t → vs[j]? = some v → Value.okWide Tryz.prog W .any base t v := hval
    have hA : DataW.TrodAll enc Tryz.prog W 0 (fun _ => true) true [23, 9] vs ds ps := hA
    have h : ShpAll Tryz.prog [23, 9] dargs := h
    obtain ⟨d1, l1, rfl, h1, h⟩ := shpAll_cons h
    obtain ⟨d2, l2, rfl, h2, h⟩ := shpAll_cons h
    obtain rfl := shpAll_nil h
    obtain ⟨a0, rfl⟩ := chs_arg h1
    obtain ⟨a1, rfl⟩ := str_arg h2
    obtain ⟨v0, vs0, e0, ds0, p0, q0, rfl, rfl, rfl, t0, r0⟩ := trodAll_cons hA
    obtain ⟨v1, vs1, e1, ds1, p1, q1, rfl, rfl, rfl, t1, r1⟩ := trodAll_cons r0
    obtain ⟨rfl, rfl, rfl⟩ := trodAll_nil r1
    obtain ⟨s', rfl, rfl, rfl, hsz⟩ := open_string Tryz.underlying9 (hval 1 9 v1 rfl rfl) t1
    cases rv_v (hpw.2 1 _ _ rfl rfl)
    have hs := of_decide_eq_true hk
    rw [Rows.uptoBulkAll, Rows.uptoBulkAll, Rows.uptoBulkAll] at hs
    have b0 := chs_bulk (hpw.2 0 _ _ rfl rfl) t0
    have n0 := sum_len (g := gC) (k := 1) (fun x => by unfold gC; omega) a0
    have m0 := chs_sm b0 (by omega)
    rw [Rows.uptoBulk] at hs
    exact texts4_D a0 a1 (by omega) (by have := ba_len a1; omega) awake9_D
theorem diffTextsUpto_row : Rows.DiffTextsUptoSaid :=
  OpenClaim.holds_of_cond 4 Tryz.f4 rfl rfl rfl rfl rfl rfl rfl ⟨rfl, rfl, rfl, rfl, rfl⟩ rfl rfl rfl rfl rfl (by kernel_rfl) Tryz.func4 (by kernel_rfl)
    (of_decide_eq_true (by kernel_rfl)) (by unfold Func.isWrapper; rw [if_neg (of_decide_eq_false (by kernel_rfl))]; exact ⟨rfl, rfl⟩)
    (fun os started H enc _ F => diffTextsUpto_lifted os started H enc F)
theorem diffTexts_card : Rows.DiffTextsUptoCardSaid :=
  Claim7.holds_tied_plain_at .later [] [.data, .data, .data, .data, .data, .pinned] true Rows.diffTextsUptoCard.stood.harness true diffTextsUpto_row (fun _ h => by cases h) (by kernel_rfl) (fun _ h => by cases h) diffTextsUpto_row_tie rfl ⟨rfl, rfl⟩ (by kernel_rfl) rfl
    (fun f fn hf hfn => by
      obtain rfl : f = 4 := Option.some.inj ((show Tryz.prog.funcNamed Rows.diffTextsUptoRow.func = some 4 by kernel_rfl).symm.trans hf) |>.symm
      obtain rfl : fn = Tryz.f4 := (Option.some.inj (Tryz.func4.symm.trans hfn)).symm
      exact ⟨by kernel_rfl, fun j t ht => by
        rw [Tryz.params4] at ht
        have hm : t ∈ [23, 9] := by simpa using Array.mem_of_getElem? ht
        have hall : ([23, 9].all fun u => !Tryz.prog.wantsStandIn u) = true := by kernel_rfl
        exact (show Tryz.prog.wantsStandIn t = false by simpa using List.all_eq_true.1 hall t hm)⟩)
    (by kernel_rfl)
end Go.Proofs.YtagfmppjlfhmeaaGreatDoor


