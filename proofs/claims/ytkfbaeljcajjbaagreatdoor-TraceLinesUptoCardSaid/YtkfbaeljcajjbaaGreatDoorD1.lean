/- The law eddylaw37.TraceLines returns true for every moment and text that are together of bulk at most 1048576, and leaves its arguments as they were, where the package-level variables of Go's library that the row lists hold what the program's text lays in them. -/
import Derived.Test.YtkfbaeljcajjbaaGreatDoorPkF
import Derived.Test.YtkfbaeljcajjbaaGreatDoorPkZ
import Derived.Test.YtkfbaeljcajjbaaGreatDoorDl27
import Derived.Test.YtkfbaeljcajjbaaGreatDoorCards
import Derived.Test.YtkfbaeljcajjbaaGreatDoorTie
import Derived.SevenTiedAt
import Derived.ChangeMaps5

namespace Go.Proofs.YtkfbaeljcajjbaaGreatDoor
open Go Go.RowKit Go.Dl Go.ChangeShapes Go.ChangeMaps

theorem small_text {H : Type} {d1 : DataW H} {l : List UInt8} (h : Rows.uptoSmall H [d1, .lit (.string l)] = true) : l.length ≤ 1048576 := by
  have e : Rows.uptoBulkAll [d1, .lit (.string l)] = Rows.uptoBulk d1 + (l.length + 1 + 0) := by
    rw [Rows.uptoBulkAll, Rows.uptoBulkAll, Rows.uptoBulkAll, Rows.uptoBulk]
  exact Nat.le_trans (m := Rows.uptoBulkAll [d1, .lit (.string l)]) (by rw [e]; omega) (of_decide_eq_true h)
set_option maxRecDepth 20000 in
theorem str_arg {d : DV} (h : ShpV Tryz.prog 9 d) : ∃ s : ByteArray, d = .v (.string s) := by
  unfold ShpV at h
  rw [Tryz.underlying9] at h
  obtain ⟨s, e, _⟩ := Shp.str_inv Tryz.underlying9 h
  cases e
  exact ⟨s, rfl⟩
set_option maxRecDepth 100000 in
theorem traceLinesUpto_lifted (os : Os) (started : os.Started) (H : Type) (enc : TypeId × Value → H) (F : Stop.Interp) :
    ReturnsInHanded {} Tryz.checked os 3 .any (fun w args => ((Rows.OpenSpec.upto Rows.traceLinesSpec).pre enc Tryz.prog Tryz.f3 [] false w args ∧ laidMetH Tryz.prog laidL w) ∧ sizedMet enc Tryz.prog Tryz.f3 (Rows.OpenSpec.upto Rows.traceLinesSpec) false w args)
      (((Rows.OpenSpec.upto Rows.traceLinesSpec).at F).post enc Tryz.prog Tryz.f3 false true false false) := by
  refine law_lift_upto (C := Tryz.checked) (k := Rows.uptoSmall) (s := Rows.traceLinesSpec) F 4 rfl Tryz.own started (by kernel_rfl) Tryz.func3
    (witness_upto (enc := enc) (C := Tryz.checked) (os := os) (k := Rows.uptoSmall) (X := fun w _ => laidMetH Tryz.prog laidL w) rfl false (World.laidAll Tryz.prog os laidL) #[.agg #[.int .i64 0, .int .i64 0, .int .i64 0, .int .i64 0, .string ByteArray.empty, .int .i64 0], .string ByteArray.empty] 16 (World.laidAll_os _ _ _)
      (World.shaped_of_ZipB (by kernel_rfl) (by kernel_rfl)) (by kernel_rfl) (x := ([.agg [.lit (.int .i64 0), .lit (.int .i64 0), .agg [.lit (.int .i64 0), .lit (.int .i64 0), .lit (.string []), .lit (.int .i64 0)]], .lit (.string [])], [], [])) (by kernel_rfl) (by kernel_rfl) (by kernel_rfl) (by kernel_rfl)
      (by rw [MakeChecks.laidMetH_plain _ _ _ plainL]; exact laidMet_laidAll _ (by kernel_rfl) (by kernel_rfl)))
    Tryz.laidOut (by kernel_rfl) (by kernel_rfl) rfl Tryz.underlying4 rfl ?_ (fun _ hL hsh => gok_of hL hsh) ?_
  · intro ds hds
    match ds, hds with
    | [d1, d2], _ => rfl
  · intro W base vs ds ps dargs hval hA hk hpw h
    have hval : ∀ (j : Nat) t v, ([25, 9] : List TypeId)[j]? = some t → vs[j]? = some v → Value.okWide Tryz.prog W .any base t v := hval
    have hA : DataW.TrodAll enc Tryz.prog W 0 (fun _ => true) true [25, 9] vs ds ps := hA
    have h : ShpAll Tryz.prog [25, 9] dargs := h
    obtain ⟨d1, l1, rfl, h1, h⟩ := shpAll_cons h
    obtain ⟨d2, l2, rfl, h2, h⟩ := shpAll_cons h
    obtain rfl := shpAll_nil h
    obtain ⟨m, rfl, hm, gm⟩ := mo_arg h1
    obtain ⟨s, rfl⟩ := str_arg h2
    obtain ⟨v0, vs0, e0, ds0, p0, q0, rfl, rfl, rfl, t0, r0⟩ := trodAll_cons hA
    obtain ⟨v1, vs1, e1, ds1, p1, q1, rfl, rfl, rfl, t1, r1⟩ := trodAll_cons r0
    obtain ⟨rfl, rfl, rfl⟩ := trodAll_nil r1
    obtain ⟨s', rfl, rfl, rfl, hsz⟩ := open_string Tryz.underlying9 (hval 1 9 v1 rfl rfl) t1
    have hs := small_text hk
    cases rv_v (hpw.2 1 _ _ rfl rfl)
    refine lines3_D m s hm gm ?_
    have : s.size = s.data.toList.length := Array.length_toList.symm
    omega
theorem traceLinesUpto_row : Rows.TraceLinesUptoSaid :=
  OpenClaim.holds_of_cond 3 Tryz.f3 rfl rfl rfl rfl rfl rfl rfl ⟨rfl, rfl, rfl, rfl, rfl⟩ rfl rfl rfl rfl rfl (by kernel_rfl) Tryz.func3 (by kernel_rfl)
    (of_decide_eq_true (by kernel_rfl)) (by unfold Func.isWrapper; rw [if_neg (of_decide_eq_false (by kernel_rfl))]; exact ⟨rfl, rfl⟩)
    (fun os started H enc _ F => traceLinesUpto_lifted os started H enc F)
theorem traceLines_card : Rows.TraceLinesUptoCardSaid :=
  Claim7.holds_tied_plain_at .later [] [.data, .data, .data, .data, .sentinel, .sentinel, .pinned] true Rows.traceLinesUptoCard.stood.harness true traceLinesUpto_row (fun _ h => by cases h) (by kernel_rfl) (fun _ h => by cases h) traceLinesUpto_row_tie rfl ⟨rfl, rfl⟩ (by kernel_rfl) rfl
    (fun f fn hf hfn => by
      obtain rfl : f = 3 := Option.some.inj ((show Tryz.prog.funcNamed Rows.traceLinesUptoRow.func = some 3 by kernel_rfl).symm.trans hf) |>.symm
      obtain rfl : fn = Tryz.f3 := (Option.some.inj (Tryz.func3.symm.trans hfn)).symm
      exact ⟨by kernel_rfl, fun j t ht => by
        rw [Tryz.params3] at ht
        have hm : t ∈ [25, 9] := by simpa using Array.mem_of_getElem? ht
        have hall : ([25, 9].all fun u => !Tryz.prog.wantsStandIn u) = true := by kernel_rfl
        exact (show Tryz.prog.wantsStandIn t = false by simpa using List.all_eq_true.1 hall t hm)⟩)
    (by kernel_rfl)
end Go.Proofs.YtkfbaeljcajjbaaGreatDoor


