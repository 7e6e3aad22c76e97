/- The law eddylaw32.WatchRanks returns true for every list of guards that is of bulk at most 1048576, and leaves its arguments as they were, where the package-level variables of Go's library that the row lists hold what the program's text lays in them. -/
import Derived.Test.YtphgcgggbbcjgaaDoorPkZ
import Derived.Test.YtphgcgggbbcjgaaDoorDl27
import Derived.Test.YtphgcgggbbcjgaaDoorCards
import Derived.Test.YtphgcgggbbcjgaaDoorTie
import Derived.SevenTiedAt
import Derived.ChangeMaps5
namespace Go.Proofs.YtphgcgggbbcjgaaDoor
open Go Go.RowKit Go.Dl Go.ChangeShapes Go.ChangeMaps

theorem bulk_pos {H : Type} (d : DataW H) : 1 ≤ Rows.uptoBulk d := by
  cases d with
  | lit l => cases l <;> simp [Rows.uptoBulk]
  | nil => simp [Rows.uptoBulk]
  | ptr d => simp [Rows.uptoBulk]
  | slice a b => simp [Rows.uptoBulk]
  | agg a => simp [Rows.uptoBulk]
  | iface a b => simp [Rows.uptoBulk]
  | map a => simp [Rows.uptoBulk]
  | held a => simp [Rows.uptoBulk]
theorem bulk_len {H : Type} : ∀ l : List (DataW H), l.length ≤ Rows.uptoBulkAll l
  | [] => Nat.zero_le _
  | d :: l => by
    have h1 := bulk_pos d
    have h2 := bulk_len l
    rw [Rows.uptoBulkAll, List.length_cons]; omega
theorem small_row {H : Type} {es rest : List (DataW H)} (h : Rows.uptoSmall H [.slice es rest] = true) : es.length ≤ 1048576 := by
  have e : Rows.uptoBulkAll [.slice es rest] = Rows.uptoBulkAll es + Rows.uptoBulkAll rest + 1 := by
    rw [Rows.uptoBulkAll, Rows.uptoBulkAll, Rows.uptoBulk]
  have h2 := bulk_len es
  exact Nat.le_trans (m := Rows.uptoBulkAll [.slice es rest]) (by rw [e]; omega) (of_decide_eq_true h)
theorem rv_row {w : World} {F : Nat → Prop} {β : Beta} {sz : Nat} {es : List (List DV)} {v : Value} (h : RV w F β (.lst sz es) v) : ∃ a cap, v = .slice a es.length cap := by
  cases h with
  | data h => cases h with | lst _ _ a b off cap g => exact ⟨a, cap, rfl⟩
theorem trod_len {H : Type} {enc : TypeId × Value → H} {P : Program} {w : World} {base : Nat} {sp : Nat → Bool} {held : Bool} {t e : TypeId} {a : Option Addr} {n cap : Nat} {d : DataW H} {ps : List MemPlace} (ht : P.underlying t = some (.slice e)) (h : DataW.Trod enc P w base sp held t (.slice a n cap) d ps) (hk : Rows.uptoSmall H [d] = true) : n ≤ 1048576 := by
  obtain ⟨fuel, hf⟩ := h
  rcases DataW.trod_slice ht hf with ⟨h0, _⟩ | ⟨a', len, cap', elems, rest, n', _, h0, hx, _, _, _, hlen, _⟩
  · simp [Value.cells] at h0
    omega
  · simp [Value.cells] at h0
    simp only [Prod.mk.injEq] at hx
    obtain ⟨hx, _⟩ := hx
    subst hx
    have := small_row hk
    rw [List.length_map, hlen] at this
    omega
theorem tab76 : fldTab Tryd.prog 76 = some [(9, 0, 1), (23, 1, 4), (25, 5, 6)] := by kernel_rfl
theorem cells76 : Tryd.prog.cellsOf 76 = 11 := by kernel_rfl
theorem gd_row (r : List DV) (h : Shp Tryd.prog 76 r) : ∃ a : Gr, r = gdD a ∧ True := by
  obtain ⟨hl, h1, h2, h3, _⟩ := Shp.struct_inv tab76 h
  rw [cells76] at hl
  match r, hl with
  | [a, b, c, d, e, f, g, i, j, k, m], _ =>
    obtain ⟨x, e1, _⟩ := Shp.str_inv Tryd.underlying9 h1
    obtain ⟨_, k1, k2, k3, k4, _⟩ := Shp.struct_inv tab23 h2
    obtain ⟨x1, e2, _⟩ := Shp.int_inv Tryd.underlying3 k1
    obtain ⟨x2, e3, _⟩ := Shp.int_inv Tryd.underlying2 k2
    obtain ⟨x3, e4, _⟩ := Shp.int_inv Tryd.underlying2 k3
    obtain ⟨x4, e5, _⟩ := Shp.int_inv Tryd.underlying2 k4
    obtain ⟨_, m1, m2, m3, m4, m5, m6, _⟩ := Shp.struct_inv tab25 h3
    obtain ⟨y1, f1⟩ := Shp.bool_inv Tryd.underlying4 m1
    obtain ⟨y2, f2, _⟩ := Shp.int_inv Tryd.underlying2 m2
    obtain ⟨y3, f3⟩ := Shp.bool_inv Tryd.underlying4 m3
    obtain ⟨y4, f4, _⟩ := Shp.int_inv Tryd.underlying2 m4
    obtain ⟨y5, f5⟩ := Shp.bool_inv Tryd.underlying4 m5
    obtain ⟨y6, f6, _⟩ := Shp.int_inv Tryd.underlying2 m6
    cases e1; cases e2; cases e3; cases e4; cases e5; cases f1; cases f2; cases f3; cases f4; cases f5; cases f6
    exact ⟨⟨x, x1, x2, x3, x4, y1, y2, y3, y4, y5, y6⟩, rfl, trivial⟩
set_option maxRecDepth 20000 in
theorem gds_arg {d : DV} (h : ShpV Tryd.prog 51 d) : ∃ l : List Gr, d = gds l := by
  obtain ⟨l, h1, h2, _⟩ := ShpV.slice_inv Tryd.underlying51 gd_row h
  rw [cells76] at h1
  exact ⟨l, h1⟩
set_option maxRecDepth 100000 in
theorem watchRanksUpto_lifted (os : Os) (started : os.Started) (H : Type) (enc : TypeId × Value → H) (F : Stop.Interp) :
    ReturnsInHanded {} Tryd.checked os 9 .any (fun w args => ((Rows.OpenSpec.upto Rows.watchRanksSpec).pre enc Tryd.prog Tryd.f9 [] false w args ∧ laidMetH Tryd.prog laidL w) ∧ sizedMet enc Tryd.prog Tryd.f9 (Rows.OpenSpec.upto Rows.watchRanksSpec) false w args)
      (((Rows.OpenSpec.upto Rows.watchRanksSpec).at F).post enc Tryd.prog Tryd.f9 false true false false) := by
  refine law_lift_upto (C := Tryd.checked) (k := Rows.uptoSmall) (s := Rows.watchRanksSpec) F 4 rfl Tryd.own started (by kernel_rfl) Tryd.func9
    (witness_upto (enc := enc) (C := Tryd.checked) (os := os) (k := Rows.uptoSmall) (X := fun w _ => laidMetH Tryd.prog laidL w) rfl false (World.laidAll Tryd.prog os laidL) #[.slice none 0 0] 8 (World.laidAll_os _ _ _)
      (World.shaped_of_ZipB (by kernel_rfl) (by kernel_rfl)) (by kernel_rfl) (x := ([.nil], [], [])) (by kernel_rfl) (by kernel_rfl) (by kernel_rfl) (by kernel_rfl)
      (by rw [MakeChecks.laidMetH_plain _ _ _ plainL]; exact laidMet_laidAll _ (by kernel_rfl) (by kernel_rfl)))
    Tryd.laidOut (by kernel_rfl) (by kernel_rfl) rfl Tryd.underlying4 rfl ?_ (fun _ hL hsh => gok_of hL hsh) ?_
  · intro ds hds
    match ds, hds with
    | [d1], _ => rfl
  · intro W base vs ds ps dargs hval hA hk hpw h
    have hA : DataW.TrodAll enc Tryd.prog W 0 (fun _ => true) true [51] vs ds ps := hA
    have h : ShpAll Tryd.prog [51] dargs := h
    obtain ⟨d1, l1, rfl, h1, h⟩ := shpAll_cons h
    obtain rfl := shpAll_nil h
    obtain ⟨l, rfl⟩ := gds_arg h1
    obtain ⟨v0, vs0, e0, ds0, p0, q0, rfl, rfl, rfl, t0, r0⟩ := trodAll_cons hA
    obtain ⟨rfl, rfl, rfl⟩ := trodAll_nil r0
    obtain ⟨a, cap, rfl⟩ := rv_row (hpw.2 0 _ _ rfl rfl)
    have hs := trod_len Tryd.underlying51 t0 hk
    rw [List.length_map] at hs
    exact ranks9_D l hs
theorem watchRanksUpto_row : Rows.WatchRanksUptoSaid :=
  OpenClaim.holds_of_cond 9 Tryd.f9 rfl rfl rfl rfl rfl rfl rfl ⟨rfl, rfl, rfl, rfl, rfl⟩ rfl rfl rfl rfl rfl (by kernel_rfl) Tryd.func9 (by kernel_rfl)
    (of_decide_eq_true (by kernel_rfl)) (by unfold Func.isWrapper; rw [if_neg (of_decide_eq_false (by kernel_rfl))]; exact ⟨rfl, rfl⟩)
    (fun os started H enc _ F => watchRanksUpto_lifted os started H enc F)
theorem watchRanks_card : Rows.WatchRanksUptoCardSaid :=
  Claim7.holds_tied_plain_at .later [] [.data, .data, .data, .data, .sentinel, .sentinel, .pinned] true Rows.watchRanksUptoCard.stood.harness true watchRanksUpto_row (fun _ h => by cases h) (by kernel_rfl) (fun _ h => by cases h) watchRanksUpto_row_tie rfl ⟨rfl, rfl⟩ (by kernel_rfl) rfl
    (fun f fn hf hfn => by
      obtain rfl : f = 9 := Option.some.inj ((show Tryd.prog.funcNamed Rows.watchRanksUptoRow.func = some 9 by kernel_rfl).symm.trans hf) |>.symm
      obtain rfl : fn = Tryd.f9 := (Option.some.inj (Tryd.func9.symm.trans hfn)).symm
      exact ⟨by kernel_rfl, fun j t ht => by
        rw [Tryd.params9] at ht
        have hm : t ∈ [51] := by simpa using Array.mem_of_getElem? ht
        have hall : ([51].all fun u => !Tryd.prog.wantsStandIn u) = true := by kernel_rfl
        exact (show Tryd.prog.wantsStandIn t = false by simpa using List.all_eq_true.1 hall t hm)⟩)
    (by kernel_rfl)
end Go.Proofs.YtphgcgggbbcjgaaDoor
