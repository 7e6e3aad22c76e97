/- The law eddylaw37.TraceBack returns true for every two moments, and leaves its arguments as they were, where the package-level variables of Go's library that the row lists hold what the program's text lays in them. -/
import Derived.Test.YtkfbaeljcajjbaaGreatDoorPkF
import Derived.Test.YtkfbaeljcajjbaaGreatDoorPkZ
import Derived.Test.YtkfbaeljcajjbaaGreatDoorCards
import Derived.Test.YtkfbaeljcajjbaaGreatDoorTie
import Derived.SevenTiedAt

namespace Go.Proofs.YtkfbaeljcajjbaaGreatDoor
open Go Go.RowKit Go.Dl

set_option maxRecDepth 100000 in
theorem traceBack_lifted (os : Os) (started : os.Started) (H : Type) (enc : TypeId × Value → H) :
    ReturnsInHanded {} Tryz.checked os 4 .any (fun w args => (Rows.traceBackSpec.pre enc Tryz.prog Tryz.f4 [] false w args ∧ laidMetH Tryz.prog laidL w) ∧ sizedMet enc Tryz.prog Tryz.f4 (OpenSpec.ofChange Rows.traceBackSpec) false w args)
      (Rows.traceBackSpec.post enc Tryz.prog Tryz.f4 false true false false) := by
  refine law_lift_laid (C := Tryz.checked) 4 Tryz.own started (by kernel_rfl) Tryz.func4
    (ChangeSpec.witness_shaped (enc := enc) (C := Tryz.checked) (os := os) (X := fun w _ => laidMetH Tryz.prog laidL w) false (World.laidAll Tryz.prog os laidL) #[.agg #[.int .i64 0, .int .i64 0, .int .i64 0, .int .i64 0, .string ByteArray.empty, .int .i64 0], .agg #[.int .i64 0, .int .i64 0, .int .i64 0, .int .i64 0, .string ByteArray.empty, .int .i64 0]] 16 (World.laidAll_os _ _ _)
      (World.shaped_of_ZipB (by kernel_rfl) (by kernel_rfl)) (by kernel_rfl) (by kernel_rfl) (by kernel_rfl)
      (by rw [MakeChecks.laidMetH_plain _ _ _ plainL]; exact laidMet_laidAll _ (by kernel_rfl) (by kernel_rfl)))
    Tryz.laidOut (by kernel_rfl) (by kernel_rfl) rfl Tryz.underlying4 rfl ?_ (fun _ hL hsh => gok_of hL hsh) ?_
  · intro ds hds
    match ds, hds with
    | [d1, d2], _ => rfl
  · intro dargs h
    have h : ShpAll Tryz.prog [25, 25] dargs := h
    obtain ⟨d1, l1, rfl, h1, h⟩ := shpAll_cons h
    obtain ⟨d2, l2, rfl, h2, h⟩ := shpAll_cons h
    obtain rfl := shpAll_nil h
    obtain ⟨m, rfl, hm, gm⟩ := mo_arg h1
    obtain ⟨n, rfl, hn, gn⟩ := mo_arg h2
    exact back4_D m n hm hn gm gn
theorem traceBack_row : Rows.TraceBackSaid :=
  OpenClaim.holds_of_wide 4 Tryz.f4 rfl rfl rfl rfl rfl rfl rfl ⟨rfl, rfl, rfl, rfl, rfl⟩ rfl rfl rfl rfl rfl (by kernel_rfl) Tryz.func4 (by kernel_rfl)
    (of_decide_eq_true (by kernel_rfl)) (by unfold Func.isWrapper; rw [if_neg (of_decide_eq_false (by kernel_rfl))]; exact ⟨rfl, rfl⟩)
    (fun os started H enc _ => traceBack_lifted os started H enc)
theorem traceBack_card : Rows.TraceBackCardSaid :=
  Claim7.holds_tied_plain_at .later [] [.data, .data, .data, .data, .sentinel, .sentinel, .pinned] true Rows.traceBackCard.stood.harness true traceBack_row (fun _ h => by cases h) (by kernel_rfl) (fun _ h => by cases h) traceBack_row_tie rfl ⟨rfl, rfl⟩ (by kernel_rfl) rfl
    (fun f fn hf hfn => by
      obtain rfl : f = 4 := Option.some.inj ((show Tryz.prog.funcNamed Rows.traceBackRow.func = some 4 by kernel_rfl).symm.trans hf) |>.symm
      obtain rfl : fn = Tryz.f4 := (Option.some.inj (Tryz.func4.symm.trans hfn)).symm
      exact ⟨by kernel_rfl, fun j t ht => by
        rw [Tryz.params4] at ht
        have hm : t ∈ [25, 25] := by simpa using Array.mem_of_getElem? ht
        have hall : ([25, 25].all fun u => !Tryz.prog.wantsStandIn u) = true := by kernel_rfl
        exact (show Tryz.prog.wantsStandIn t = false by simpa using List.all_eq_true.1 hall t hm)⟩)
    (by kernel_rfl)
end Go.Proofs.YtkfbaeljcajjbaaGreatDoor


