/- The law eddylaw35.TableReads returns true for every text of bulk at most 1048576, and leaves its argument as it was, where the package-level variables of Go's library that the row lists hold what the program's text lays in them. -/
import Derived.Test.YtlchjjchgebfiaaGreatDoorPkX
import Derived.Test.YtlchjjchgebfiaaGreatDoorPkA
import Derived.Test.YtlchjjchgebfiaaGreatDoorDl27
import Derived.Test.YtlchjjchgebfiaaGreatDoorCards
import Derived.Test.YtlchjjchgebfiaaGreatDoorTie
import Derived.SevenTiedAt
import Derived.ChangeMaps5

namespace Go.Proofs.YtlchjjchgebfiaaGreatDoor
open Go Go.RowKit Go.Dl Go.ChangeShapes Go.ChangeMaps

theorem small_text {H : Type} {l : List UInt8} (h : Rows.uptoSmall H [.lit (.string l)] = true) : l.length ≤ 1048576 := by
  have e : Rows.uptoBulkAll [(.lit (.string l) : DataW H)] = l.length + 1 + 0 := by
    rw [Rows.uptoBulkAll, Rows.uptoBulkAll, Rows.uptoBulk]
  exact Nat.le_trans (m := Rows.uptoBulkAll [(.lit (.string l) : DataW H)]) (by rw [e]; omega) (of_decide_eq_true h)
set_option maxRecDepth 20000 in
theorem str_arg {d : DV} (h : ShpV Tryz.prog 9 d) : ∃ s : ByteArray, d = .v (.string s) := by
  unfold ShpV at h
  rw [Tryz.underlying9] at h
  obtain ⟨s, e, _⟩ := Shp.str_inv Tryz.underlying9 h
  cases e
  exact ⟨s, rfl⟩
set_option maxRecDepth 100000 in
theorem tableReadsUpto_lifted (os : Os) (started : os.Started) (H : Type) (enc : TypeId × Value → H) (F : Stop.Interp) :
    ReturnsInHanded {} Tryz.checked os 4 .any (fun w args => ((Rows.OpenSpec.upto Rows.tableReadsSpec).pre enc Tryz.prog Tryz.f4 [] false w args ∧ laidMetH Tryz.prog laidL w) ∧ sizedMet enc Tryz.prog Tryz.f4 (Rows.OpenSpec.upto Rows.tableReadsSpec) false w args)
      (((Rows.OpenSpec.upto Rows.tableReadsSpec).at F).post enc Tryz.prog Tryz.f4 false true false false) := by
  refine law_lift_upto (C := Tryz.checked) (k := Rows.uptoSmall) (s := Rows.tableReadsSpec) F 4 rfl Tryz.own started (by kernel_rfl) Tryz.func4
    (witness_upto (enc := enc) (C := Tryz.checked) (os := os) (k := Rows.uptoSmall) (X := fun w _ => laidMetH Tryz.prog laidL w) rfl false (World.laidAll Tryz.prog os laidL) #[.string ByteArray.empty] 16 (World.laidAll_os _ _ _)
      (World.shaped_of_ZipB (by kernel_rfl) (by kernel_rfl)) (by kernel_rfl) (x := ([.lit (.string [])], [], [])) (by kernel_rfl) (by kernel_rfl) (by kernel_rfl) (by kernel_rfl)
      (by rw [MakeChecks.laidMetH_plain _ _ _ plainL]; exact laidMet_laidAll _ (by kernel_rfl) (by kernel_rfl)))
    Tryz.laidOut (by kernel_rfl) (by kernel_rfl) rfl Tryz.underlying4 rfl ?_ (fun _ hL hsh => gok_of hL hsh) ?_
  · intro ds hds
    match ds, hds with
    | [d1], _ => rfl
  · intro W base vs ds ps dargs hval hA hk hpw h
    have hval : ∀ (j : Nat) t v, ([9] : List TypeId)[j]? = some t → vs[j]? = some v → Value.okWide Tryz.prog W .any base t v := hval
    have hA : DataW.TrodAll enc Tryz.prog W 0 (fun _ => true) true [9] vs ds ps := hA
    have h : ShpAll Tryz.prog [9] dargs := h
    obtain ⟨d1, l1, rfl, h1, h⟩ := shpAll_cons h
    obtain rfl := shpAll_nil h
    obtain ⟨s, rfl⟩ := str_arg h1
    obtain ⟨v0, vs0, e0, ds0, p0, q0, rfl, rfl, rfl, t0, r0⟩ := trodAll_cons hA
    obtain ⟨rfl, rfl, rfl⟩ := trodAll_nil r0
    obtain ⟨s', rfl, rfl, rfl, hsz⟩ := open_string Tryz.underlying9 (hval 0 9 v0 rfl rfl) t0
    have hs := small_text hk
    cases rv_v (hpw.2 0 _ _ rfl rfl)
    refine reads4_D s ?_
    have : s.size = s.data.toList.length := Array.length_toList.symm
    omega
theorem tableReadsUpto_row : Rows.TableReadsUptoSaid :=
  OpenClaim.holds_of_cond 4 Tryz.f4 rfl rfl rfl rfl rfl rfl rfl ⟨rfl, rfl, rfl, rfl, rfl⟩ rfl rfl rfl rfl rfl (by kernel_rfl) Tryz.func4 (by kernel_rfl)
    (of_decide_eq_true (by kernel_rfl)) (by unfold Func.isWrapper; rw [if_neg (of_decide_eq_false (by kernel_rfl))]; exact ⟨rfl, rfl⟩)
    (fun os started H enc _ F => tableReadsUpto_lifted os started H enc F)
theorem tableReads_card : Rows.TableReadsUptoCardSaid :=
  Claim7.holds_tied_plain_at .later [] [.data, .data, .data, .data, .sentinel, .sentinel, .pinned] true Rows.tableReadsUptoCard.stood.harness true tableReadsUpto_row (fun _ h => by cases h) (by kernel_rfl) (fun _ h => by cases h) tableReadsUpto_row_tie rfl ⟨rfl, rfl⟩ (by kernel_rfl) rfl
    (fun f fn hf hfn => by
      obtain rfl : f = 4 := Option.some.inj ((show Tryz.prog.funcNamed Rows.tableReadsUptoRow.func = some 4 by kernel_rfl).symm.trans hf) |>.symm
      obtain rfl : fn = Tryz.f4 := (Option.some.inj (Tryz.func4.symm.trans hfn)).symm
      exact ⟨by kernel_rfl, fun j t ht => by
        rw [Tryz.params4] at ht
        have hm : t ∈ [9] := by simpa using Array.mem_of_getElem? ht
        have hall : ([9].all fun u => !Tryz.prog.wantsStandIn u) = true := by kernel_rfl
        exact (show Tryz.prog.wantsStandIn t = false by simpa using List.all_eq_true.1 hall t hm)⟩)
    (by kernel_rfl)
end Go.Proofs.YtlchjjchgebfiaaGreatDoor


