/- The law eddylaw40.ChaosTexts returns true for every plan and text that are together of bulk at most 1048576, and leaves its arguments as they were, where the package-level variables of Go's library that the row lists hold what the program's text lays in them. -/
import Derived.Test.YtgaghkchdiepoaaDoorPkT
import Derived.Test.YtgaghkchdiepoaaDoorPkE
import Derived.Test.YtgaghkchdiepoaaDoorDl27
import Derived.Test.YtgaghkchdiepoaaDoorCards
import Derived.Test.YtgaghkchdiepoaaDoorTie
import Derived.SevenTiedAt
import Derived.ChangeMaps5

namespace Go.Proofs.YtgaghkchdiepoaaDoor
open Go Go.RowKit Go.Dl Go.ChangeShapes Go.ChangeMaps

theorem small_text {H : Type} {d1 : DataW H} {l : List UInt8} (h : Rows.uptoSmall H [d1, .lit (.string l)] = true) : l.length ≤ 1048576 := by
  have e : Rows.uptoBulkAll [d1, .lit (.string l)] = Rows.uptoBulk d1 + (l.length + 1 + 0) := by
    rw [Rows.uptoBulkAll, Rows.uptoBulkAll, Rows.uptoBulkAll, Rows.uptoBulk]
  exact Nat.le_trans (m := Rows.uptoBulkAll [d1, .lit (.string l)]) (by rw [e]; omega) (of_decide_eq_true h)
set_option maxRecDepth 20000 in
theorem str_arg {d : DV} (h : ShpV Tryd.prog 9 d) : ∃ s : ByteArray, d = .v (.string s) := by
  unfold ShpV at h
  rw [Tryd.underlying9] at h
  obtain ⟨s, e, _⟩ := Shp.str_inv Tryd.underlying9 h
  cases e
  exact ⟨s, rfl⟩
set_option maxRecDepth 100000 in
theorem chaosTextsUpto_lifted (os : Os) (started : os.Started) (H : Type) (enc : TypeId × Value → H) (F : Stop.Interp) :
    ReturnsInHanded {} Tryd.checked os 5 .any (fun w args => ((Rows.OpenSpec.upto Rows.chaosTextsSpec).pre enc Tryd.prog Tryd.f5 [] false w args ∧ laidMetH Tryd.prog laidL w) ∧ sizedMet enc Tryd.prog Tryd.f5 (Rows.OpenSpec.upto Rows.chaosTextsSpec) false w args)
      (((Rows.OpenSpec.upto Rows.chaosTextsSpec).at F).post enc Tryd.prog Tryd.f5 false true false false) := by
  refine law_lift_upto (C := Tryd.checked) (k := Rows.uptoSmall) (s := Rows.chaosTextsSpec) F 4 rfl Tryd.own started (by kernel_rfl) Tryd.func5
    (witness_upto (enc := enc) (C := Tryd.checked) (os := os) (k := Rows.uptoSmall) (X := fun w _ => laidMetH Tryd.prog laidL w) rfl false (World.laidAll Tryd.prog os laidL) #[.slice none 0 0, .string ByteArray.empty] 8 (World.laidAll_os _ _ _)
      (World.shaped_of_ZipB (by kernel_rfl) (by kernel_rfl)) (by kernel_rfl) (x := ([.nil, .lit (.string [])], [], [])) (by kernel_rfl) (by kernel_rfl) (by kernel_rfl) (by kernel_rfl)
      (by rw [MakeChecks.laidMetH_plain _ _ _ plainL]; exact laidMet_laidAll _ (by kernel_rfl) (by kernel_rfl)))
    Tryd.laidOut (by kernel_rfl) (by kernel_rfl) rfl Tryd.underlying4 rfl ?_ (fun _ hL hsh => gok_of hL hsh) ?_
  · intro ds hds
    match ds, hds with
    | [d1, d2], _ => rfl
  · intro W base vs ds ps dargs hval hA hk hpw h
    have hval : ∀ (j : Nat) t v, ([22, 9] : List TypeId)[j]? = some t → vs[j]? = some v → Value.okWide Tryd.prog W .any base t v := hval
    have hA : DataW.TrodAll enc Tryd.prog W 0 (fun _ => true) true [22, 9] vs ds ps := hA
    have h : ShpAll Tryd.prog [22, 9] dargs := h
    obtain ⟨d1, l1, rfl, h1, h⟩ := shpAll_cons h
    obtain ⟨d2, l2, rfl, h2, h⟩ := shpAll_cons h
    obtain rfl := shpAll_nil h
    obtain ⟨a, rfl, ha⟩ := mxs_arg h1
    obtain ⟨s, rfl⟩ := str_arg h2
    obtain ⟨v0, vs0, e0, ds0, p0, q0, rfl, rfl, rfl, t0, r0⟩ := trodAll_cons hA
    obtain ⟨v1, vs1, e1, ds1, p1, q1, rfl, rfl, rfl, t1, r1⟩ := trodAll_cons r0
    obtain ⟨rfl, rfl, rfl⟩ := trodAll_nil r1
    obtain ⟨s', rfl, rfl, rfl, hsz⟩ := open_string Tryd.underlying9 (hval 1 9 v1 rfl rfl) t1
    have hs := small_text hk
    cases rv_v (hpw.2 1 _ _ rfl rfl)
    refine texts5_D a s ?_
    have : s.size = s.data.toList.length := Array.length_toList.symm
    omega
theorem chaosTextsUpto_row : Rows.ChaosTextsUptoSaid :=
  OpenClaim.holds_of_cond 5 Tryd.f5 rfl rfl rfl rfl rfl rfl rfl ⟨rfl, rfl, rfl, rfl, rfl⟩ rfl rfl rfl rfl rfl (by kernel_rfl) Tryd.func5 (by kernel_rfl)
    (of_decide_eq_true (by kernel_rfl)) (by unfold Func.isWrapper; rw [if_neg (of_decide_eq_false (by kernel_rfl))]; exact ⟨rfl, rfl⟩)
    (fun os started H enc _ F => chaosTextsUpto_lifted os started H enc F)
theorem chaosTexts_card : Rows.ChaosTextsUptoCardSaid :=
  Claim7.holds_tied_plain_at .later [] [.data, .data, .data, .data, .sentinel, .sentinel, .pinned] true Rows.chaosTextsUptoCard.stood.harness true chaosTextsUpto_row (fun _ h => by cases h) (by kernel_rfl) (fun _ h => by cases h) chaosTextsUpto_row_tie rfl ⟨rfl, rfl⟩ (by kernel_rfl) rfl
    (fun f fn hf hfn => by
      obtain rfl : f = 5 := Option.some.inj ((show Tryd.prog.funcNamed Rows.chaosTextsUptoRow.func = some 5 by kernel_rfl).symm.trans hf) |>.symm
      obtain rfl : fn = Tryd.f5 := (Option.some.inj (Tryd.func5.symm.trans hfn)).symm
      exact ⟨by kernel_rfl, fun j t ht => by
        rw [Tryd.params5] at ht
        have hm : t ∈ [22, 9] := by simpa using Array.mem_of_getElem? ht
        have hall : ([22, 9].all fun u => !Tryd.prog.wantsStandIn u) = true := by kernel_rfl
        exact (show Tryd.prog.wantsStandIn t = false by simpa using List.all_eq_true.1 hall t hm)⟩)
    (by kernel_rfl)
end Go.Proofs.YtgaghkchdiepoaaDoor


