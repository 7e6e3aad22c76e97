/- The law eddylaw37.TraceSelects returns true for every list of outcomes, list of moments and filter that are together of bulk at most 1048576, and leaves its arguments as they were, where the package-level variables of Go's library that the row lists hold what the program's text lays in them. -/
import Derived.Test.YtkfbaeljcajjbaaGreatDoorPkW
import Derived.Test.YtkfbaeljcajjbaaGreatDoorDl27
import Derived.Test.YtkfbaeljcajjbaaGreatDoorCards
import Derived.Test.YtkfbaeljcajjbaaGreatDoorTie
import Derived.SevenTiedAt
import Derived.ChangeMaps5

namespace Go.Proofs.YtkfbaeljcajjbaaGreatDoor
open Go Go.RowKit Go.Dl Go.ChangeShapes Go.ChangeMaps

theorem small_first {H : Type} {d1 d2 d3 : DataW H} (h : Rows.uptoSmall H [d1, d2, d3] = true) : Rows.uptoBulk d1 ≤ 1048576 := by
  have e : Rows.uptoBulkAll [d1, d2, d3] = Rows.uptoBulk d1 + (Rows.uptoBulk d2 + (Rows.uptoBulk d3 + 0)) := by
    rw [Rows.uptoBulkAll, Rows.uptoBulkAll, Rows.uptoBulkAll, Rows.uptoBulkAll]
  exact Nat.le_trans (m := Rows.uptoBulkAll [d1, d2, d3]) (by rw [e]; omega) (of_decide_eq_true h)
set_option maxRecDepth 100000 in
theorem traceSelectsUpto_lifted (os : Os) (started : os.Started) (H : Type) (enc : TypeId × Value → H) (F : Stop.Interp) :
    ReturnsInHanded {} Tryz.checked os 6 .any (fun w args => ((Rows.OpenSpec.upto Rows.traceSelectsSpec).pre enc Tryz.prog Tryz.f6 [] false w args ∧ laidMetH Tryz.prog laidL w) ∧ sizedMet enc Tryz.prog Tryz.f6 (Rows.OpenSpec.upto Rows.traceSelectsSpec) false w args)
      (((Rows.OpenSpec.upto Rows.traceSelectsSpec).at F).post enc Tryz.prog Tryz.f6 false true false false) := by
  refine law_lift_upto (C := Tryz.checked) (k := Rows.uptoSmall) (s := Rows.traceSelectsSpec) F 4 rfl Tryz.own started (by kernel_rfl) Tryz.func6
    (witness_upto (enc := enc) (C := Tryz.checked) (os := os) (k := Rows.uptoSmall) (X := fun w _ => laidMetH Tryz.prog laidL w) rfl false (World.laidAll Tryz.prog os laidL) #[.slice none 0 0, .slice none 0 0, .agg #[.slice none 0 0, .slice none 0 0, .slice none 0 0, .string ByteArray.empty, .int .i64 0, .int .i64 0]] 16 (World.laidAll_os _ _ _)
      (World.shaped_of_ZipB (by kernel_rfl) (by kernel_rfl)) (by kernel_rfl) (x := ([.nil, .nil, .agg [.nil, .nil, .nil, .lit (.string []), .lit (.int .i64 0), .lit (.int .i64 0)]], [], [])) (by kernel_rfl) (by kernel_rfl) (by kernel_rfl) (by kernel_rfl)
      (by rw [MakeChecks.laidMetH_plain _ _ _ plainL]; exact laidMet_laidAll _ (by kernel_rfl) (by kernel_rfl)))
    Tryz.laidOut (by kernel_rfl) (by kernel_rfl) rfl Tryz.underlying4 rfl ?_ (fun _ hL hsh => gok_of hL hsh) ?_
  · intro ds hds
    match ds, hds with
    | [d1, d2, d3], _ => rfl
  · intro W base vs ds ps dargs hval hA hk hpw h
    have hval : ∀ (j : Nat) t v, ([45, 36, 39] : List TypeId)[j]? = some t → vs[j]? = some v → Value.okWide Tryz.prog W .any base t v := hval
    have hA : DataW.TrodAll enc Tryz.prog W 0 (fun _ => true) true [45, 36, 39] vs ds ps := hA
    have h : ShpAll Tryz.prog [45, 36, 39] dargs := h
    obtain ⟨d1, l1, rfl, h1, h⟩ := shpAll_cons h
    obtain ⟨d2, l2, rfl, h2, h⟩ := shpAll_cons h
    obtain ⟨d3, l3, rfl, h3, h⟩ := shpAll_cons h
    obtain rfl := shpAll_nil h
    obtain ⟨o, rfl⟩ := ocs_arg h1
    obtain ⟨l, rfl, hl, _⟩ := mos_arg h2
    obtain ⟨f, rfl⟩ := fil_arg h3
    obtain ⟨v0, vs0, e0, ds0, p0, q0, rfl, rfl, rfl, t0, r0⟩ := trodAll_cons hA
    obtain ⟨v1, vs1, e1, ds1, p1, q1, rfl, rfl, rfl, t1, r1⟩ := trodAll_cons r0
    obtain ⟨v2, vs2, e2, ds2, p2, q2, rfl, rfl, rfl, t2, r2⟩ := trodAll_cons r1
    obtain ⟨rfl, rfl, rfl⟩ := trodAll_nil r2
    have hs := small_first hk
    have hb := ocs_bulk (hpw.2 0 _ _ rfl rfl) t0
    exact selects6_D o l f (by omega) hl
theorem traceSelectsUpto_row : Rows.TraceSelectsUptoSaid :=
  OpenClaim.holds_of_cond 6 Tryz.f6 rfl rfl rfl rfl rfl rfl rfl ⟨rfl, rfl, rfl, rfl, rfl⟩ rfl rfl rfl rfl rfl (by kernel_rfl) Tryz.func6 (by kernel_rfl)
    (of_decide_eq_true (by kernel_rfl)) (by unfold Func.isWrapper; rw [if_neg (of_decide_eq_false (by kernel_rfl))]; exact ⟨rfl, rfl⟩)
    (fun os started H enc _ F => traceSelectsUpto_lifted os started H enc F)
theorem traceSelects_card : Rows.TraceSelectsUptoCardSaid :=
  Claim7.holds_tied_plain_at .later [] [.data, .data, .data, .data, .sentinel, .sentinel, .pinned] true Rows.traceSelectsUptoCard.stood.harness true traceSelectsUpto_row (fun _ h => by cases h) (by kernel_rfl) (fun _ h => by cases h) traceSelectsUpto_row_tie rfl ⟨rfl, rfl⟩ (by kernel_rfl) rfl
    (fun f fn hf hfn => by
      obtain rfl : f = 6 := Option.some.inj ((show Tryz.prog.funcNamed Rows.traceSelectsUptoRow.func = some 6 by kernel_rfl).symm.trans hf) |>.symm
      obtain rfl : fn = Tryz.f6 := (Option.some.inj (Tryz.func6.symm.trans hfn)).symm
      exact ⟨by kernel_rfl, fun j t ht => by
        rw [Tryz.params6] at ht
        have hm : t ∈ [45, 36, 39] := by simpa using Array.mem_of_getElem? ht
        have hall : ([45, 36, 39].all fun u => !Tryz.prog.wantsStandIn u) = true := by kernel_rfl
        exact (show Tryz.prog.wantsStandIn t = false by simpa using List.all_eq_true.1 hall t hm)⟩)
    (by kernel_rfl)
end Go.Proofs.YtkfbaeljcajjbaaGreatDoor


