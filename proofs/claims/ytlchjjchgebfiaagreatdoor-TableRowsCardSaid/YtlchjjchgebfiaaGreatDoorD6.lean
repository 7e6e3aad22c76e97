/- The law eddylaw35.TableRows returns true for every table, all keys and numbers, and leaves its argument as it was, where the package-level variables of Go's library that the row lists hold what the program's text lays in them. -/
import Derived.Test.YtlchjjchgebfiaaGreatDoorPkE
import Derived.Test.YtlchjjchgebfiaaGreatDoorPkA
import Derived.Test.YtlchjjchgebfiaaGreatDoorCards
import Derived.Test.YtlchjjchgebfiaaGreatDoorTie
import Derived.SevenTiedAt

namespace Go.Proofs.YtlchjjchgebfiaaGreatDoor
open Go Go.RowKit Go.Dl
set_option maxRecDepth 100000 in
theorem tableRows_lifted (os : Os) (started : os.Started) (H : Type) (enc : TypeId × Value → H) :
    ReturnsInHanded {} Tryz.checked os 7 .any (fun w args => (Rows.tableRowsSpec.pre enc Tryz.prog Tryz.f7 [] false w args ∧ laidMetH Tryz.prog laidL w) ∧ sizedMet enc Tryz.prog Tryz.f7 (OpenSpec.ofChange Rows.tableRowsSpec) false w args)
      (Rows.tableRowsSpec.post enc Tryz.prog Tryz.f7 false true false false) := by
  refine law_lift_laid (C := Tryz.checked) 4 Tryz.own started (by kernel_rfl) Tryz.func7
    (ChangeSpec.witness_shaped (enc := enc) (C := Tryz.checked) (os := os) (X := fun w _ => laidMetH Tryz.prog laidL w) false (World.laidAll Tryz.prog os laidL) #[.agg #[.slice none 0 0, .slice none 0 0], .slice none 0 0, .int .i64 0, .int .i64 0] 16 (World.laidAll_os _ _ _)
      (World.shaped_of_ZipB (by kernel_rfl) (by kernel_rfl)) (by kernel_rfl) (by kernel_rfl) (by kernel_rfl)
      (by rw [MakeChecks.laidMetH_plain _ _ _ plainL]; exact laidMet_laidAll _ (by kernel_rfl) (by kernel_rfl)))
    Tryz.laidOut (by kernel_rfl) (by kernel_rfl) rfl Tryz.underlying4 rfl ?_ (fun _ hL hsh => gok_of hL hsh) ?_
  · intro ds hds
    match ds, hds with
    | [d1, d2, d3, d4], _ => rfl
  · intro dargs h
    have h : ShpAll Tryz.prog [25, 41, 3, 3] dargs := h
    obtain ⟨d1, l1, rfl, h1, h⟩ := shpAll_cons h
    obtain ⟨d2, l2, rfl, h2, h⟩ := shpAll_cons h
    obtain ⟨d3, l3, rfl, h3, h⟩ := shpAll_cons h
    obtain ⟨d4, l4, rfl, h4, h⟩ := shpAll_cons h
    obtain rfl := shpAll_nil h
    obtain ⟨t, rfl, ht⟩ := tab_arg h1
    obtain ⟨ks, rfl, hk, hr⟩ := ints_arg h2
    obtain ⟨x, rfl, _⟩ := int_arg h3
    obtain ⟨y, rfl, _⟩ := int_arg h4
    exact rows7_D t ht ks hk hr x y
theorem tableRows_row : Rows.TableRowsSaid :=
  OpenClaim.holds_of_wide 7 Tryz.f7 rfl rfl rfl rfl rfl rfl rfl ⟨rfl, rfl, rfl, rfl, rfl⟩ rfl rfl rfl rfl rfl (by kernel_rfl) Tryz.func7 (by kernel_rfl)
    (of_decide_eq_true (by kernel_rfl)) (by unfold Func.isWrapper; rw [if_neg (of_decide_eq_false (by kernel_rfl))]; exact ⟨rfl, rfl⟩)
    (fun os started H enc _ => tableRows_lifted os started H enc)
theorem tableRows_card : Rows.TableRowsCardSaid :=
  Claim7.holds_tied_plain_at .later [] [.data, .data, .data, .data, .sentinel, .sentinel, .pinned] true Rows.tableRowsCard.stood.harness true tableRows_row (fun _ h => by cases h) (by kernel_rfl) (fun _ h => by cases h) tableRows_row_tie rfl ⟨rfl, rfl⟩ (by kernel_rfl) rfl
    (fun f fn hf hfn => by
      obtain rfl : f = 7 := Option.some.inj ((show Tryz.prog.funcNamed Rows.tableRowsRow.func = some 7 by kernel_rfl).symm.trans hf) |>.symm
      obtain rfl : fn = Tryz.f7 := (Option.some.inj (Tryz.func7.symm.trans hfn)).symm
      exact ⟨by kernel_rfl, fun j t ht => by
        rw [Tryz.params7] at ht
        have hm : t ∈ [25, 41, 3, 3] := by simpa using Array.mem_of_getElem? ht
        have hall : ([25, 41, 3, 3].all fun u => !Tryz.prog.wantsStandIn u) = true := by kernel_rfl
        exact (show Tryz.prog.wantsStandIn t = false by simpa using List.all_eq_true.1 hall t hm)⟩)
    (by kernel_rfl)
end Go.Proofs.YtlchjjchgebfiaaGreatDoor


