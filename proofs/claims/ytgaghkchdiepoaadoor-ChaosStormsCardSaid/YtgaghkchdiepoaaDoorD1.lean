/- The law eddylaw40.ChaosStorms returns true for every three numbers, and leaves its arguments as they were, where the package-level variables of Go's library that the row lists hold what the program's text lays in them. -/
import Derived.Test.YtgaghkchdiepoaaDoorPkE
import Derived.Test.YtgaghkchdiepoaaDoorCards
import Derived.Test.YtgaghkchdiepoaaDoorTie
import Derived.SevenTiedAt

namespace Go.Proofs.YtgaghkchdiepoaaDoor
open Go Go.RowKit Go.Dl

set_option maxRecDepth 100000 in
theorem chaosStorms_lifted (os : Os) (started : os.Started) (H : Type) (enc : TypeId × Value → H) :
    ReturnsInHanded {} Tryd.checked os 6 .any (fun w args => (Rows.chaosStormsSpec.pre enc Tryd.prog Tryd.f6 [] false w args ∧ laidMetH Tryd.prog laidL w) ∧ sizedMet enc Tryd.prog Tryd.f6 (OpenSpec.ofChange Rows.chaosStormsSpec) false w args)
      (Rows.chaosStormsSpec.post enc Tryd.prog Tryd.f6 false true false false) := by
  refine law_lift_laid (C := Tryd.checked) 4 Tryd.own started (by kernel_rfl) Tryd.func6
    (ChangeSpec.witness_shaped (enc := enc) (C := Tryd.checked) (os := os) (X := fun w _ => laidMetH Tryd.prog laidL w) false (World.laidAll Tryd.prog os laidL) #[.int .i64 0, .int .i64 0, .int .u64 0] 8 (World.laidAll_os _ _ _)
      (World.shaped_of_ZipB (by kernel_rfl) (by kernel_rfl)) (by kernel_rfl) (by kernel_rfl) (by kernel_rfl)
      (by rw [MakeChecks.laidMetH_plain _ _ _ plainL]; exact laidMet_laidAll _ (by kernel_rfl) (by kernel_rfl)))
    Tryd.laidOut (by kernel_rfl) (by kernel_rfl) rfl Tryd.underlying4 rfl ?_ (fun _ hL hsh => gok_of hL hsh) ?_
  · intro ds hds
    match ds, hds with
    | [d1, d2, d3], _ => rfl
  · intro dargs h
    have h : ShpAll Tryd.prog [3, 3, 30] dargs := h
    obtain ⟨d1, l1, rfl, h1, h⟩ := shpAll_cons h
    obtain ⟨d2, l2, rfl, h2, h⟩ := shpAll_cons h
    obtain ⟨d3, l3, rfl, h3, h⟩ := shpAll_cons h
    obtain rfl := shpAll_nil h
    obtain ⟨n, rfl, _⟩ := ShpV.int_inv Tryd.underlying3 h1
    obtain ⟨s, rfl, _⟩ := ShpV.int_inv Tryd.underlying3 h2
    obtain ⟨x, rfl, _⟩ := ShpV.int_inv Tryd.underlying30 h3
    exact storms6_D n s x
theorem chaosStorms_row : Rows.ChaosStormsSaid :=
  OpenClaim.holds_of_wide 6 Tryd.f6 rfl rfl rfl rfl rfl rfl rfl ⟨rfl, rfl, rfl, rfl, rfl⟩ rfl rfl rfl rfl rfl (by kernel_rfl) Tryd.func6 (by kernel_rfl)
    (of_decide_eq_true (by kernel_rfl)) (by unfold Func.isWrapper; rw [if_neg (of_decide_eq_false (by kernel_rfl))]; exact ⟨rfl, rfl⟩)
    (fun os started H enc _ => chaosStorms_lifted os started H enc)
theorem chaosStorms_card : Rows.ChaosStormsCardSaid :=
  Claim7.holds_tied_plain_at .later [] [.data, .data, .data, .data, .sentinel, .sentinel, .pinned] true Rows.chaosStormsCard.stood.harness true chaosStorms_row (fun _ h => by cases h) (by kernel_rfl) (fun _ h => by cases h) chaosStorms_row_tie rfl ⟨rfl, rfl⟩ (by kernel_rfl) rfl
    (fun f fn hf hfn => by
      obtain rfl : f = 6 := Option.some.inj ((show Tryd.prog.funcNamed Rows.chaosStormsRow.func = some 6 by kernel_rfl).symm.trans hf) |>.symm
      obtain rfl : fn = Tryd.f6 := (Option.some.inj (Tryd.func6.symm.trans hfn)).symm
      exact ⟨by kernel_rfl, fun j t ht => by
        rw [Tryd.params6] at ht
        have hm : t ∈ [3, 3, 30] := by simpa using Array.mem_of_getElem? ht
        have hall : ([3, 3, 30].all fun u => !Tryd.prog.wantsStandIn u) = true := by kernel_rfl
        exact (show Tryd.prog.wantsStandIn t = false by simpa using List.all_eq_true.1 hall t hm)⟩)
    (by kernel_rfl)
end Go.Proofs.YtgaghkchdiepoaaDoor


