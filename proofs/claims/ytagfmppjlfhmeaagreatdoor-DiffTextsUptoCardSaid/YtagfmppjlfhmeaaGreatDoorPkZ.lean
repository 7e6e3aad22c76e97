/- How much rows of leaves and of changes hold: their bulk. -/
import Derived.Test.YtagfmppjlfhmeaaGreatDoorPkA
import Derived.Test.YtagfmppjlfhmeaaGreatDoorDp27
import Derived.ChangeMaps5
import Derived.Test.YtagfmppjlfhmeaaGreatDoorDp23
import Derived.Stop.LaidErr
import Derived.Lib.LaidTab

namespace Go.Proofs.YtagfmppjlfhmeaaGreatDoor
open Go Go.RowKit Go.Dl Go.ChangeShapes Go.ChangeMaps
theorem bulk_pos {H : Type} (d : DataW H) : 1 ≤ Rows.uptoBulk d := by
  cases d with
  | lit l => cases l <;> simp [Rows.uptoBulk]
  | nil => simp [Rows.uptoBulk]
  | ptr d => simp [Rows.uptoBulk]
  | slice a b => simp [Rows.uptoBulk]
  | agg a => simp [Rows.uptoBulk]
  | iface a b => simp [Rows.uptoBulk]
  | map a => simp [Rows.uptoBulk]
  | held a => simp [Rows.uptoBulk]
theorem bulk_sum {H α : Type} (g : α → Nat) : ∀ (es : List (DataW H)) (l : List α), es.length = l.length → (∀ (i : Nat) e a, es[i]? = some e → l[i]? = some a → g a ≤ Rows.uptoBulk e) → (l.map g).sum ≤ Rows.uptoBulkAll es
  | [], [], _, _ => Nat.le_refl _
  | [], _ :: _, h, _ => by simp at h
  | _ :: _, [], h, _ => by simp at h
  | e :: es, a :: l, h, hg => by
    have h1 := hg 0 e a rfl rfl
    have h2 := bulk_sum g es l (by simpa using h) fun i e a h1 h2 => hg (i + 1) e a (by simpa using h1) (by simpa using h2)
    rw [List.map_cons, List.sum_cons, Rows.uptoBulkAll]; omega
theorem drop_one {cs : List Value} {k : Nat} {x : Value} (h : cs[k]? = some x) : (cs.drop k).take 1 = [x] := by
  have hk : k < cs.length := (List.getElem?_eq_some_iff.1 h).1
  rw [List.drop_eq_getElem_cons hk]
  rw [List.getElem?_eq_getElem hk] at h
  rw [Option.some.inj h]; rfl
set_option maxRecDepth 20000 in
theorem row_bulk {H α : Type} {f : α → List DV} {g : α → Nat} {t e n : Nat} {enc : TypeId × Value → H} {W : World} {F : Nat → Prop} {β : Beta} {sp : Nat → Bool} {held : Bool} {l : List α} {v : Value} {d : DataW H} {ps : List MemPlace}
    (hu : Tryz.prog.underlying t = some (.slice e)) (hce : Tryz.prog.cellsOf e = n) (hfl : ∀ a, (f a).length = n)
    (hrow : ∀ (fuel : Nat) (a : α) (cs : List Value) (x : DataW H × List MemPlace), cs.length = n → (∀ (k : Nat) (dv : DV), (f a)[k]? = some dv → ∃ y : Value, cs[k]? = some y ∧ RD W F dv y) → DataW.trod enc Tryz.prog W 0 sp held fuel e cs = some x → g a ≤ Rows.uptoBulk x.1)
    (hv : RV W F β (.lst n (l.map f)) v) (ht : DataW.Trod enc Tryz.prog W 0 sp held t v d ps) : (l.map g).sum ≤ Rows.uptoBulk d := by
  generalize hes : l.map f = es at hv
  have hel : es.length = l.length := by rw [← hes, List.length_map]
  obtain ⟨fuel, hf⟩ := ht
  cases hv with
  | data hd =>
    cases hd with
    | lst _ _ a b off cap gg ha hn hc hm hsz hcell hd =>
      rcases DataW.trod_slice hu hf with ⟨h0, _⟩ | ⟨a', len, cap', elems, rest, n', _, h0, hx, _, _, _, hlen, hels, _⟩
      · simp [Value.cells] at h0
        have : l = [] := List.eq_nil_of_length_eq_zero (by omega)
        subst this
        exact Nat.zero_le _
      · simp [Value.cells] at h0
        obtain ⟨h01, h02, h03⟩ := h0
        simp only [Prod.mk.injEq] at hx
        obtain ⟨rfl, _⟩ := hx
        rw [Rows.uptoBulk]
        have hsum := bulk_sum g (elems.map (·.1)) l (by rw [List.length_map]; omega) fun i e' o h1 h2 => by
          rw [List.getElem?_map, Option.map_eq_some_iff] at h1
          obtain ⟨e', h1, rfl⟩ := h1
          have hil : i < l.length := (List.getElem?_eq_some_iff.1 h2).1
          have hE := hels i (by omega)
          rw [h1, Option.bind_eq_some_iff] at hE
          obtain ⟨cs, hcs, htr⟩ := hE
          rw [hce] at hcs
          obtain ⟨_, hcl, hcc⟩ := World.cells?_some hcs
          have hne : es ≠ [] := fun e => by rw [e] at hel; simp at hel; omega
          have hr : es[i]? = some (f o) := by rw [← hes, List.getElem?_map, h2]; rfl
          have ha' := ha hne
          rw [ha'] at h01
          cases h01
          refine hrow _ o cs _ hcl (fun k dv hk => ⟨gg i k, ?_, hd i _ k _ hr hk⟩) htr
          have hkn : k < n := by rw [← hfl o]; exact (List.getElem?_eq_some_iff.1 hk).1
          have hc1 := (hcell i _ k _ hr hk).1
          have hc2 := hcc k hkn
          rw [Addr.add_lit, Addr.add_lit] at hc2
          rw [← hc2, ← hc1]
        omega
theorem str_rd {W : World} {F : Nat → Prop} {s : ByteArray} {y : Value} (h : RD W F (strV s) y) : y = .string s := by
  cases h; rfl
theorem str_bulk {H : Type} {enc : TypeId × Value → H} {W : World} {sp : Nat → Bool} {held : Bool} {fuel : Nat} {s : ByteArray} {x : DataW H × List MemPlace} (h : DataW.trod enc Tryz.prog W 0 sp held fuel 9 [.string s] = some x) : Rows.uptoBulk x.1 = s.size + 1 := by
  obtain ⟨s', h1, h2, _⟩ := DataW.trod_string Tryz.underlying9 h
  simp only [List.cons.injEq, Value.string.injEq, and_true] at h1
  subst h1
  rw [h2]
  show Rows.uptoBulk (.lit (.string s.data.toList)) = _
  rw [Rows.uptoBulk, ba_len]
theorem fld35 : ∃ fs, Tryz.prog.underlying 35 = some (.struct fs) ∧ fs.toList.map (fun f => (f.type, f.offset)) = [(9, 0), (9, 1)] := ⟨_, Tryz.underlying35, by kernel_rfl⟩
theorem fld56 : ∃ fs, Tryz.prog.underlying 56 = some (.struct fs) ∧ fs.toList.map (fun f => (f.type, f.offset)) = [(9, 0), (4, 1), (9, 2), (4, 3), (9, 4)] := ⟨_, Tryz.underlying56, by kernel_rfl⟩
theorem cells35 : Tryz.prog.cellsOf 35 = 2 := by kernel_rfl
theorem cells56 : Tryz.prog.cellsOf 56 = 5 := by kernel_rfl
theorem cells9 : Tryz.prog.cellsOf 9 = 1 := by kernel_rfl
theorem fs_at {fs : Array Field} {l : List (TypeId × Nat)} (h : fs.toList.map (fun f => (f.type, f.offset)) = l) {k : Nat} {t o : Nat} (hk : l[k]? = some (t, o)) : ∃ f, fs[k]? = some f ∧ f.type = t ∧ f.offset = o := by
  rw [← h, List.getElem?_map, Option.map_eq_some_iff] at hk
  obtain ⟨f, h1, h2⟩ := hk
  simp only [Prod.mk.injEq] at h2
  exact ⟨f, by simpa using h1, h2.1, h2.2⟩
set_option maxRecDepth 20000 in
theorem fld_str {H : Type} {enc : TypeId × Value → H} {W : World} {F : Nat → Prop} {sp : Nat → Bool} {held : Bool} {m : Nat} {cs : List Value} {xs : List (DataW H × List MemPlace)} {fs : Array Field} {l : List (TypeId × Nat)} {k : Nat} {s : ByteArray}
    (hl : fs.toList.map (fun f => (f.type, f.offset)) = l) (hk : l[k]? = some (9, k)) (hxl : xs.length = fs.size) (hx : ∀ (i : Nat) f, fs[i]? = some f → DataW.trod enc Tryz.prog W 0 sp held m f.type ((cs.drop f.offset).take (Tryz.prog.cellsOf f.type)) = xs[i]?)
    (hc : ∃ y : Value, cs[k]? = some y ∧ RD W F (strV s) y) : ∃ x, xs[k]? = some x ∧ Rows.uptoBulk x.1 = s.size + 1 := by
  obtain ⟨f, h1, h2, h3⟩ := fs_at hl hk
  obtain ⟨y, hy, hr⟩ := hc
  have h4 := hx k f h1
  rw [h2, h3, cells9, drop_one hy, str_rd hr] at h4
  have hkx : k < xs.length := by rw [hxl]; exact (Array.getElem?_eq_some_iff.1 h1).1
  rw [List.getElem?_eq_getElem hkx] at h4 ⊢
  exact ⟨_, rfl, str_bulk h4⟩
def gL (x : Lf) : Nat := x.p.size + x.v.size + 3
def gC (c : Ch) : Nat := c.p.size + c.was.size + c.is.size + 6
set_option maxRecDepth 20000 in
theorem lfs_bulk {H : Type} {enc : TypeId × Value → H} {W : World} {F : Nat → Prop} {β : Beta} {sp : Nat → Bool} {held : Bool} {l : List Lf} {v : Value} {d : DataW H} {ps : List MemPlace} (hv : RV W F β (lfs l) v)
    (ht : DataW.Trod enc Tryz.prog W 0 sp held 22 v d ps) : (l.map gL).sum ≤ Rows.uptoBulk d := by
  refine row_bulk (f := lfD) Tryz.underlying22 cells35 (fun _ => rfl) (fun fuel a cs x hl hc htr => ?_) hv ht
  obtain ⟨fs, hfs, hfl⟩ := fld35
  obtain ⟨xs, n2, _, rfl, _, hxl, hxf⟩ := DataW.trod_struct hfs htr
  obtain ⟨x0, e0, b0⟩ := fld_str (k := 0) hfl rfl hxl hxf (hc 0 _ rfl)
  obtain ⟨x1, e1, b1⟩ := fld_str (k := 1) hfl rfl hxl hxf (hc 1 _ rfl)
  have hn : xs.length = 2 := by rw [hxl]; have := congrArg List.length hfl; simpa using this
  match xs, hn, e0, e1 with
  | [y0, y1], _, e0, e1 =>
    cases e0; cases e1
    show gL a ≤ Rows.uptoBulk (.agg [_, _])
    rw [Rows.uptoBulk, Rows.uptoBulkAll, Rows.uptoBulkAll, Rows.uptoBulkAll, b0, b1]
    unfold gL; omega
set_option maxRecDepth 20000 in
theorem chs_bulk {H : Type} {enc : TypeId × Value → H} {W : World} {F : Nat → Prop} {β : Beta} {sp : Nat → Bool} {held : Bool} {l : List Ch} {v : Value} {d : DataW H} {ps : List MemPlace} (hv : RV W F β (chs l) v)
    (ht : DataW.Trod enc Tryz.prog W 0 sp held 23 v d ps) : (l.map gC).sum ≤ Rows.uptoBulk d := by
  refine row_bulk (f := chD) Tryz.underlying23 cells56 (fun _ => rfl) (fun fuel a cs x hl hc htr => ?_) hv ht
  obtain ⟨fs, hfs, hfl⟩ := fld56
  obtain ⟨xs, n2, _, rfl, _, hxl, hxf⟩ := DataW.trod_struct hfs htr
  obtain ⟨x0, e0, b0⟩ := fld_str (k := 0) hfl rfl hxl hxf (hc 0 _ rfl)
  obtain ⟨x2, e2, b2⟩ := fld_str (k := 2) hfl rfl hxl hxf (hc 2 _ rfl)
  obtain ⟨x4, e4, b4⟩ := fld_str (k := 4) hfl rfl hxl hxf (hc 4 _ rfl)
  have hn : xs.length = 5 := by rw [hxl]; have := congrArg List.length hfl; simpa using this
  match xs, hn, e0, e2, e4 with
  | [y0, y1, y2, y3, y4], _, e0, e2, e4 =>
    cases e0; cases e2; cases e4
    show gC a ≤ Rows.uptoBulk (.agg [_, _, _, _, _])
    have h1 := bulk_pos y1.1
    have h3 := bulk_pos y3.1
    rw [Rows.uptoBulk, Rows.uptoBulkAll, Rows.uptoBulkAll, Rows.uptoBulkAll, Rows.uptoBulkAll, Rows.uptoBulkAll, Rows.uptoBulkAll, b0, b2, b4]
    unfold gC; show _ ≤ _ + (Rows.uptoBulk y1.1 + (_ + (Rows.uptoBulk y3.1 + (_ + 0)))) + 1; omega
theorem sum_mem {α : Type} {g : α → Nat} : ∀ {l : List α} {x : α}, x ∈ l → g x ≤ (l.map g).sum
  | [], _, h => by cases h
  | a :: l, x, h => by
    rw [List.map_cons, List.sum_cons]
    rcases List.mem_cons.1 h with rfl | h
    · omega
    · have := sum_mem (g := g) h; omega
theorem sum_len {α : Type} {g : α → Nat} {k : Nat} (hg : ∀ x, k ≤ g x) : ∀ l : List α, l.length * k ≤ (l.map g).sum
  | [] => by simp
  | a :: l => by
    have h1 := sum_len hg l
    have h2 := hg a
    rw [List.map_cons, List.sum_cons, List.length_cons, Nat.add_mul]; omega
end Go.Proofs.YtagfmppjlfhmeaaGreatDoor

namespace Go.Proofs.YtagfmppjlfhmeaaGreatDoor
open Go.RowKit Go.Dl
theorem tab35 : fldTab Tryz.prog 35 = some [(9, 0, 1), (9, 1, 1)] := by kernel_rfl
theorem tab56 : fldTab Tryz.prog 56 = some [(9, 0, 1), (4, 1, 1), (9, 2, 1), (4, 3, 1), (9, 4, 1)] := by kernel_rfl
set_option maxRecDepth 20000 in
theorem lf_row (r : List DV) (h : Shp Tryz.prog 35 r) : ∃ x : Lf, r = lfD x ∧ True := by
  obtain ⟨hl, h1, h2, _⟩ := Shp.struct_inv tab35 h
  rw [cells35] at hl
  match r, hl with
  | [a, b], _ =>
    obtain ⟨x1, e1, _⟩ := Shp.str_inv Tryz.underlying9 h1
    obtain ⟨x2, e2, _⟩ := Shp.str_inv Tryz.underlying9 h2
    cases e1; cases e2
    exact ⟨⟨x1, x2⟩, rfl, trivial⟩
set_option maxRecDepth 20000 in
theorem ch_row (r : List DV) (h : Shp Tryz.prog 56 r) : ∃ x : Ch, r = chD x ∧ True := by
  obtain ⟨hl, h1, h2, h3, h4, h5, _⟩ := Shp.struct_inv tab56 h
  rw [cells56] at hl
  match r, hl with
  | [a, b, c, d, e], _ =>
    obtain ⟨x1, e1, _⟩ := Shp.str_inv Tryz.underlying9 h1
    obtain ⟨x2, e2⟩ := Shp.bool_inv Tryz.underlying4 h2
    obtain ⟨x3, e3, _⟩ := Shp.str_inv Tryz.underlying9 h3
    obtain ⟨x4, e4⟩ := Shp.bool_inv Tryz.underlying4 h4
    obtain ⟨x5, e5, _⟩ := Shp.str_inv Tryz.underlying9 h5
    cases e1; cases e2; cases e3; cases e4; cases e5
    exact ⟨⟨x1, x2, x3, x4, x5⟩, rfl, trivial⟩
set_option maxRecDepth 20000 in
theorem lfs_arg {d : DV} (h : ShpV Tryz.prog 22 d) : ∃ l : List Lf, d = lfs l := by
  obtain ⟨l, h1, _⟩ := ShpV.slice_inv Tryz.underlying22 lf_row h
  rw [cells35] at h1
  exact ⟨l, h1⟩
set_option maxRecDepth 20000 in
theorem chs_arg {d : DV} (h : ShpV Tryz.prog 23 d) : ∃ l : List Ch, d = chs l := by
  obtain ⟨l, h1, _⟩ := ShpV.slice_inv Tryz.underlying23 ch_row h
  rw [cells56] at h1
  exact ⟨l, h1⟩
set_option maxRecDepth 20000 in
theorem str_arg {d : DV} (h : ShpV Tryz.prog 9 d) : ∃ s : ByteArray, d = strV s := by
  unfold ShpV at h
  rw [Tryz.underlying9] at h
  obtain ⟨s, e, _⟩ := Shp.str_inv Tryz.underlying9 h
  cases e
  exact ⟨s, rfl⟩
theorem lfs_sm {l : List Lf} {n : Nat} (h : (l.map gL).sum ≤ n) (hn : n ≤ 1048576) : SmL l := by
  have h1 := sum_len (g := gL) (k := 1) (fun x => by unfold gL; omega) l
  refine ⟨by omega, fun x hx => ?_⟩
  have : x.p.size + x.v.size + 3 ≤ _ := sum_mem (g := gL) hx
  omega
theorem chs_sm {l : List Ch} {n : Nat} (h : (l.map gC).sum ≤ n) (hn : n ≤ 1048576) : SmC l := by
  have h1 := sum_len (g := gC) (k := 1) (fun x => by unfold gC; omega) l
  refine ⟨by omega, fun x hx => ?_⟩
  have : x.p.size + x.was.size + x.is.size + 6 ≤ _ := sum_mem (g := gC) hx
  omega
theorem Tryz.own : ownKnob Tryz.prog.godebug = none := by kernel_rfl
theorem Tryz.laidOut : laidOutB Tryz.prog = true := by kernel_rfl
abbrev laidL : List (String × DataW Unit) := Rows.diffAppliesUptoRow.laid
theorem gPowT : ∃ t, (Tryz.prog.globals[2]?).map (·.type) = some t ∧ Tryz.prog.underlying t = some (.array 20 215) ∧ Tryz.prog.cellsOf t = 20 := ⟨_, rfl, by kernel_rfl, by kernel_rfl⟩
theorem cells215 : Tryz.prog.cellsOf 215 = 1 := by kernel_rfl
theorem plainL : (laidL.all fun x => x.2.handleName?.isNone) = true := by kernel_rfl
theorem gok_of {W : World} (hL : laidMetH Tryz.prog laidL W) (hsh : W.ShapedOpen Tryz.prog) : Gok W := by
  rw [MakeChecks.laidMetH_plain _ _ _ plainL] at hL
  obtain ⟨t, ht, hu, hc⟩ := gPowT
  have h2 := hL.tail.tail
  refine ⟨Go.Proofs.cell_of_shapedOpen_int (zero := #[.int .i64 0]) (t := 3) hsh (of_decide_eq_true (by kernel_rfl)) (by kernel_rfl) rfl (by kernel_rfl) (by kernel_rfl) Tryz.underlying3, ?_⟩
  exact Lib.tabIs_of_head (g := 2) (t := t) (e := 215) (n := 20) gPow ht hu Tryz.underlying215 cells215 hc h2
end Go.Proofs.YtagfmppjlfhmeaaGreatDoor
