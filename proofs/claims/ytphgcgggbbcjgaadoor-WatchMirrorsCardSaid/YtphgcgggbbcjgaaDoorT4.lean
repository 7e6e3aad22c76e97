/- The law eddylaw32.WatchMirrors returns true for every alarm and samples, and leaves its arguments as they were, where the package-level variables of Go's library that the row lists hold what the program's text lays in them. -/
import Derived.Test.YtphgcgggbbcjgaaDoorV
import Derived.Test.YtphgcgggbbcjgaaDoorCards
import Derived.Test.YtphgcgggbbcjgaaDoorTie
import Derived.SevenTiedAt
namespace Go.Proofs.YtphgcgggbbcjgaaDoor
open Go Go.RowKit Go.Dl

set_option maxRecDepth 100000 in
theorem watchMirrors_lifted (os : Os) (started : os.Started) (H : Type) (enc : TypeId × Value → H) :
    ReturnsInHanded {} Tryd.checked os 7 .any (fun w args => (Rows.watchMirrorsSpec.pre enc Tryd.prog Tryd.f7 [] false w args ∧ laidMetH Tryd.prog laidL w) ∧ sizedMet enc Tryd.prog Tryd.f7 (OpenSpec.ofChange Rows.watchMirrorsSpec) false w args)
      (Rows.watchMirrorsSpec.post enc Tryd.prog Tryd.f7 false true false false) := by
  refine law_lift_laid (C := Tryd.checked) 4 Tryd.own started (by kernel_rfl) Tryd.func7
    (ChangeSpec.witness_shaped (enc := enc) (C := Tryd.checked) (os := os) (X := fun w _ => laidMetH Tryd.prog laidL w) false (World.laidAll Tryd.prog os laidL) #[.agg #[.int .i64 0, .int .i64 0, .int .i64 0, .int .i64 0], .slice none 0 0] 8 (World.laidAll_os _ _ _)
      (World.shaped_of_ZipB (by kernel_rfl) (by kernel_rfl)) (by kernel_rfl) (by kernel_rfl) (by kernel_rfl)
      (by rw [MakeChecks.laidMetH_plain _ _ _ plainL]; exact laidMet_laidAll _ (by kernel_rfl) (by kernel_rfl)))
    Tryd.laidOut (by kernel_rfl) (by kernel_rfl) rfl Tryd.underlying4 rfl ?_ (fun _ hL hsh => gok_of hL hsh) ?_
  · intro ds hds
    match ds, hds with
    | [d1, d2], _ => rfl
  · intro dargs h
    have h : ShpAll Tryd.prog [23, 34] dargs := h
    obtain ⟨d1, l1, rfl, h1, h⟩ := shpAll_cons h
    obtain ⟨d2, l2, rfl, h2, h⟩ := shpAll_cons h
    obtain rfl := shpAll_nil h
    obtain ⟨a, rfl⟩ := al_arg h1
    obtain ⟨l, rfl, hl⟩ := sms_arg h2
    exact mirrors7_D a l hl
theorem watchMirrors_row : Rows.WatchMirrorsSaid :=
  OpenClaim.holds_of_wide 7 Tryd.f7 rfl rfl rfl rfl rfl rfl rfl ⟨rfl, rfl, rfl, rfl, rfl⟩ rfl rfl rfl rfl rfl (by kernel_rfl) Tryd.func7 (by kernel_rfl)
    (of_decide_eq_true (by kernel_rfl)) (by unfold Func.isWrapper; rw [if_neg (of_decide_eq_false (by kernel_rfl))]; exact ⟨rfl, rfl⟩)
    (fun os started H enc _ => watchMirrors_lifted os started H enc)
theorem watchMirrors_card : Rows.WatchMirrorsCardSaid :=
  Claim7.holds_tied_plain_at .later [] [.data, .data, .data, .data, .sentinel, .sentinel, .pinned] true Rows.watchMirrorsCard.stood.harness true watchMirrors_row (fun _ h => by cases h) (by kernel_rfl) (fun _ h => by cases h) watchMirrors_row_tie rfl ⟨rfl, rfl⟩ (by kernel_rfl) rfl
    (fun f fn hf hfn => by
      obtain rfl : f = 7 := Option.some.inj ((show Tryd.prog.funcNamed Rows.watchMirrorsRow.func = some 7 by kernel_rfl).symm.trans hf) |>.symm
      obtain rfl : fn = Tryd.f7 := (Option.some.inj (Tryd.func7.symm.trans hfn)).symm
      exact ⟨by kernel_rfl, fun j t ht => by
        rw [Tryd.params7] at ht
        have hm : t ∈ [23, 34] := by simpa using Array.mem_of_getElem? ht
        have hall : ([23, 34].all fun u => !Tryd.prog.wantsStandIn u) = true := by kernel_rfl
        exact (show Tryd.prog.wantsStandIn t = false by simpa using List.all_eq_true.1 hall t hm)⟩)
    (by kernel_rfl)
end Go.Proofs.YtphgcgggbbcjgaaDoor
