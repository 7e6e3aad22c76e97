/-
  The data-level logic, part 32: the bytes of a text appended to a slice of bytes; results given up for good, at the end of a function, in steps.
-/
import Derived.Test.YtlchjjchgebfiaaGreatDoorDp31
import Derived.Lib.AppendStr
import Derived.Laws.IdiomStrings
import Derived.Lib.BufferRead

namespace Go.Dl
open Go Go.RowKit
def bytesD (x : ByteArray) : List DV := (Lib.strCells x).map .v
theorem bytesD_len (x : ByteArray) : (bytesD x).length = x.size := by rw [bytesD, List.length_map, Lib.strCells_length]
section
variable {P : Program} {s : Sto} {ρ : Operand → DV} {K : DV → Sto → Prop}
theorem esem_appStr [Inhabited GlobS] {x y : Operand} {t u : TypeId} {e : TypeId} {i : TypeInfo} (ht : P.underlying t = some (.slice e)) (hu : P.underlying u = some .string) (hi : P.info? e = some i) (hz : i.zero = some (.int .u8 0)) (hsz : i.size = 1) (hby : i.bytes = 1)
    {id n : Nat} {o : DObj} {str : ByteArray} (hx : ρ x = .arr id n) (hy : ρ y = .v (.string str)) (hob : s.ob id = some o) (he : o.elem = e) (hos : o.sz = 1) (hn : o.cells.length = n) (hlen : n + str.size ≤ 140737488355328)
    (hK : K (.arr s.nx (n + str.size)) ⟨upd (upd s.ob id none) s.nx (some ⟨e, 1, o.cells ++ bytesD str⟩), s.nx + 1⟩) (hm : Nat.beq e MAPT = false := by rfl) : ESem P s (.call ⟨.builtin .append, #[x, y], #[t, u]⟩) ρ K := by
  intro w0 F0 β w a hs hρ
  have hvx := hρ x
  have hvy := hρ y
  rw [hx] at hvx
  rw [hy] at hvy
  have hye : a.eval y = .string str := rv_v hvy
  have hrun : ∀ (v : Value) (w' : World), (∀ ty, (Builtin.append_ #[t, u] ty #[a.eval x, a.eval y]).run P w = .ok v w') → ∀ (o : Oper), o.op = .call ⟨.builtin .append, #[x, y], #[t, u]⟩ → (execOp a.eval o).run P w = .ok (.value v) w' := fun v w' hr o ho => by
    simp only [execOp, ho, resolve, invoke, builtin, Sem.run_bind, Sem.run_pure, Result.andThen_ok, List.map_toArray, List.map_cons, List.map_nil, hr]
  have hdrop := hs.drop id
  have hdso : ∀ i, ((upd s.ob id none) i).isSome = true → (s.ob i).isSome = true := fun i hi => by
    by_cases e : i = id
    · subst e; simp at hi
    · simpa only [upd_ne _ _ _ e] using hi
  have hcl : (Lib.strCells str).length = str.size := Lib.strCells_length str
  have hxs : ∀ (j : Nat) v, (Lib.strCells str)[j]? = some v → v.oneCell' = true := fun j v hv => by
    obtain ⟨b, _, rfl⟩ := List.mem_map.1 (show v ∈ str.data.toList.map fun b => Value.int .u8 b.toNat from List.mem_of_getElem? hv)
    rfl
  have hml : n + str.size ≤ maxLen := by simp only [maxLen]; omega
  -- a new block
  have grown : ∀ (old : Nat) (ovs : List Value), old < n + str.size → Pw w (Fr w0 F0 ⟨upd s.ob id none, s.nx⟩ β) β o.cells ovs →
      (∀ ty, (Builtin.append_ #[t, u] ty #[a.eval x, a.eval y]).run P w = .ok (.slice (some ⟨w.heap.size, 0, none⟩) (n + str.size) (grownCap w (n + str.size) old e)) (w.drew.alloc (.cells (ovs.toArray ++ (Lib.strCells str).toArray ++ Builtin.zeroCells (Value.int .u8 0).cells (grownCap w (n + str.size) old e - (n + str.size))) e))) →
      ∃ nx v w' d s' β', (nx = .value v ∨ (nx = .skip ∧ v = undef)) ∧ (∀ (o : Oper), o.op = .call ⟨.builtin .append, #[x, y], #[t, u]⟩ → (execOp a.eval o).run P w = .ok nx w') ∧ K d s' ∧
        SRel w0 F0 s' β' w' ∧ Ext s.nx w0 nX s β w s' β' w' ∧ s.nx ≤ s'.nx ∧ RV w' (Fr w0 F0 s' β') β' d v ∧ Oth β (etgt ρ (.call ⟨.builtin .append, #[x, y], #[t, u]⟩)) w w' ∧ Nb s s' β β' (etgt ρ (.call ⟨.builtin .append, #[x, y], #[t, u]⟩)) w := by
    intro old ovs hold hpo hr
    have hge := grownCap_ge w (n + str.size) old e
    have hcm : grownCap w (n + str.size) old e ≤ maxLen := grownCap_le_maxLen w (n + str.size) old e hml
    have hbd : BelowD w.heap.size w w.drew := ⟨rfl, rfl, rfl, Nat.le_refl _, fun _ _ => rfl, fun _ => Nat.le_succ _⟩
    obtain ⟨hs2, hext2⟩ := hdrop.1.below' hbd
    have hovl : ovs.length = n := by rw [← hpo.1]; exact hn
    have hzl : (Builtin.zeroCells (Value.int .u8 0).cells (grownCap w (n + str.size) old e - (n + str.size))).size = grownCap w (n + str.size) old e - (n + str.size) := by
      rw [size_zeroCells]; exact Nat.mul_one _
    have hcur : (ovs.toArray ++ (Lib.strCells str).toArray ++ Builtin.zeroCells (Value.int .u8 0).cells (grownCap w (n + str.size) old e - (n + str.size))).size = grownCap w (n + str.size) old e * 1 := by
      simp only [Array.size_append, List.size_toArray, hovl, hcl, hzl]; omega
    obtain ⟨k1, k2⟩ := hs2.alloc s.nx hs2.fresh.1 hs2.fresh.2 (s.nx + 1) (by show s.nx ≤ s.nx + 1; omega) (by omega) ⟨e, 1, o.cells ++ bytesD str⟩ _ (grownCap w (n + str.size) old e) hcur hcm (by
      rw [hcur, List.length_append, hn, bytesD_len]; omega) (fun j d hj => by
      rw [List.getElem?_append] at hj
      split at hj
      · rename_i hjl
        have hjo : j < ovs.length := by rw [← hpo.1]; exact hjl
        refine ⟨ovs[j], ?_, RV.ext hdrop.1 (Nat.le_refl _) (hext2 _) (hpo.2 j d _ hj (List.getElem?_eq_getElem hjo))⟩
        rw [Array.getElem?_append_left (by simp; omega), Array.getElem?_append_left (by simpa using hjo)]
        simp
      · rename_i hjl
        have hjn : j - o.cells.length < (Lib.strCells str).length := by have := (List.getElem?_eq_some_iff.1 hj).1; rw [bytesD_len] at this; omega
        refine ⟨(Lib.strCells str)[j - o.cells.length], ?_, ?_⟩
        · rw [Array.getElem?_append_left (by simp; omega), Array.getElem?_append_right (by simp; omega)]
          simp [hovl, hn]
        · rw [bytesD, List.getElem?_map, List.getElem?_eq_getElem hjn] at hj
          cases hj
          exact .data (.v _ (hxs _ _ (List.getElem?_eq_getElem hjn))))
    dsimp only at k1 k2
    rw [blk_cells hm] at k1 k2
    refine ⟨_, .slice (some ⟨w.heap.size, 0, none⟩) (n + str.size) (grownCap w (n + str.size) old e), _, _, _, _, .inl rfl, hrun _ _ hr, hK, k1, ((hdrop.2 _).trans ((hext2 _).trans (k2 _))), Nat.le_succ _, ?_⟩
    exact ⟨.arr _ _ w.heap.size _ (by simp) hge, fun b2 hb2 _ => heap_alloc_old w.drew _ hb2, .new s.nx (fun i e hi => hdso i (by simpa only [upd_ne _ _ _ e] using hi)) (fun i e => upd_ne _ _ _ e) (fun b c' hb => by simp at hb; exact Nat.le_of_eq hb.1)⟩
  have hdx : str0 (ρ x) = .arr id n := by rw [hx]; rfl
  rcases rv_arr hvx with ⟨b, c, hbb, hlc, hxe⟩ | ⟨hbb, h0, hxe⟩
  · rcases hs.obs id o hob with g | ⟨b', c', cur, g1, g2, g3, g4, g5, g6, g7⟩
    · rw [g.1] at hbb; cases hbb
    rw [g1] at hbb
    simp only [Option.some.injEq, Prod.mk.injEq] at hbb
    obtain ⟨rfl, rfl⟩ := hbb
    rw [blk_cells (by rw [he]; exact hm)] at g3
    rw [hos, Nat.mul_one] at g4
    have g3' : w.heap[b']? = some (.cells cur e (0, 0)) := by rw [g3, he]
    have hpo : Pw w (Fr w0 F0 s β) β o.cells (cur.toList.take n) := by
      refine ⟨by simp; omega, fun j d u h1 h2 => ?_⟩
      obtain ⟨q, hq, hr⟩ := g7 j d h1
      rw [List.getElem?_take] at h2
      split at h2
      · rw [Array.getElem?_toList, hq] at h2
        cases h2; exact hr
      · cases h2
    have hpol : (cur.toList.take n).length = n := by rw [← hpo.1]; exact hn
    by_cases hroom : n + str.size ≤ c'
    · -- in place
      have hr := fun ty => Lib.run_append_room_string (P := P) w t u ty e i ht hu hi hsz b' n c' cur g3' str hroom (by omega)
      have hl1 : n + (Lib.strCells str).length ≤ cur.toList.length := by simp; omega
      obtain ⟨k1, k2⟩ := hs.retake id o hob b' c' g1 s.nx (s.nx + 1) hs.fresh.1 hs.fresh.2 (by omega) (by omega) _ (cur.toList.take n ++ Lib.strCells str ++ cur.toList.drop (n + str.size)).toArray ⟨e, 1, o.cells ++ bytesD str⟩ hos.symm (below_setRow w b' _) (fun k hk => setRow_other w b' k _ hk) (by rw [setRow_heap w b' cur _ o.elem _ g3, he]; exact congrArg some (blk_cells hm _).symm) (by
          simp only [List.size_toArray, List.length_append, hpol, hcl, List.length_drop, Array.length_toList, hos]; omega) (by
          simp only [List.size_toArray, List.length_append, hpol, hcl, List.length_drop, Array.length_toList, hn, bytesD_len]; omega) (fun j d hj => by
          rw [List.getElem?_append] at hj
          simp only [List.getElem?_toArray]
          split at hj
          · rename_i hjl
            obtain ⟨q, hq, hr2⟩ := g7 j d hj
            refine ⟨q, ?_, hr2⟩
            rw [List.append_assoc, List.getElem?_append_left (by omega), List.getElem?_take, if_pos (by omega), Array.getElem?_toList]; exact hq
          · rename_i hjl
            have hjn : j - o.cells.length < (Lib.strCells str).length := by have := (List.getElem?_eq_some_iff.1 hj).1; rw [bytesD_len] at this; omega
            refine ⟨(Lib.strCells str)[j - o.cells.length], ?_, ?_⟩
            · rw [List.append_assoc, List.getElem?_append_right (by omega), hpol, List.getElem?_append_left (by omega), ← hn]
              exact List.getElem?_eq_getElem hjn
            · rw [bytesD, List.getElem?_map, List.getElem?_eq_getElem hjn] at hj
              cases hj
              exact .data (.v _ (hxs _ _ (List.getElem?_eq_getElem hjn))))
      refine ⟨_, .slice (some ⟨b', 0, none⟩) (n + str.size) c', _, _, _, _, .inl rfl, hrun _ _ (fun ty => by rw [hxe, hye]; exact hr ty), hK, k1, k2 _, Nat.le_succ _, .arr _ _ b' c' (by simp) hroom, fun b2 _ h2 => setRow_other w b' b2 _ (fun e => h2 id c' (by simp [etgt, hdx]) (by rw [e]; exact g1)), fun i b2 c2 hi hb2 _ => ?_⟩
      by_cases e : i = s.nx
      · subst e
        simp only [upd_same, Option.some.injEq, Prod.mk.injEq] at hb2
        exact .inr ⟨id, c', by simp [etgt, hdx], by simp [hob], by rw [← hb2.1]; exact g1⟩
      · exact .inl ⟨hdso i (by simpa only [upd_ne _ _ _ e] using hi), by rw [← hb2, upd_ne _ _ _ e]⟩
    · have hpo1 : Pw w (Fr w0 F0 ⟨upd s.ob id none, s.nx⟩ β) β o.cells (cur.toList.take n) := ⟨hpo.1, fun j d u h1 h2 => RV.ext hs (Nat.le_refl _) (hdrop.2 s.nx) (hpo.2 j d u h1 h2)⟩
      refine grown c' _ (by omega) hpo1 (fun ty => ?_)
      have := Lib.run_append_grow_string (P := P) w t u ty e i (.int .u8 0) ht hu hi hz ⟨b', 0, none⟩ n c' (cur.toList.take n) (by rw [hpol, hsz, Nat.mul_one]) (fun j v hv => by
          rw [List.getElem?_take] at hv
          split at hv
          · rw [Addr.add_lit, Nat.zero_add]; simpa [World.cell?, g3] using hv
          · cases hv) str (by omega) (by omega) (by rw [hby]; exact growslice_fits (by omega) (by omega))
      rw [hxe, hye, this]
  · subst h0
    have hc0 : o.cells = [] := List.eq_nil_of_length_eq_zero hn
    by_cases hm : str.size = 0
    · have hb0 : bytesD str = [] := List.eq_nil_of_length_eq_zero (by rw [bytesD_len]; exact hm)
      obtain ⟨k1, k2⟩ := hdrop.1.nilObj s.nx (s.nx + 1) hdrop.1.fresh.1 hdrop.1.fresh.2 (by show s.nx ≤ s.nx + 1; omega) (by omega) ⟨e, 1, o.cells ++ bytesD str⟩ (by rw [hc0, hb0]; rfl)
      refine ⟨_, .slice none 0 0, w, _, _, _, .inl rfl, hrun _ _ (fun ty => ?_), hK, k1, (hdrop.2 _).trans (k2 _), Nat.le_succ _, ?_, fun _ _ _ => rfl, .new s.nx (fun i e hi => hdso i (by simpa only [upd_ne _ _ _ e] using hi)) (fun i e => upd_ne _ _ _ e) (fun b c' hb => by simp at hb)⟩
      · rw [hxe, hye]
        have hn0 : Lib.strCells str = [] := List.eq_nil_of_length_eq_zero (by rw [hcl]; exact hm)
        have hf := Lib.run_firstCells_string (P := P) w 1 str
        rw [hm] at hf
        simp [Builtin.append_, run_underlying ht, run_underlying hu, sizeOf, typeInfo, hi, hsz, Builtin.lenOf, hm, hf]
      · rw [show 0 + str.size = 0 by omega]
        exact .arrNil _ (by simp)
    · refine grown 0 [] (by omega) (by rw [hc0]; exact .nil) (fun ty => ?_)
      have := run_append_nil_string (P := P) w t u ty e i (.int .u8 0) ht hu hi hz str (by omega) (by omega) (by rw [hby]; omega)
      have e1 : (str.data.map fun b => Value.int .u8 b.toNat) = (Lib.strCells str).toArray := by
        apply Array.ext'
        simp [Lib.strCells]
      rw [hxe, hye, this, e1]
      simp
end
theorem SCall.tidy [Inhabited GlobS] {P : Program} {f : FuncId} {args : List DV} {s : Sto} {K : DV → Sto → Prop} {nx' : Nat} (l : List (Nat × DObj)) (hn : s.nx = nx') (hl : allP (fun p => s.ob p.1 = some p.2) l)
    (h : SCall P f args (.of l nx') K) : SCall P f args s K := fun w0 F0 β w vals hs hx => by
  subst hn
  have hsub : ∀ i o, (Sto.of l s.nx).ob i = some o → s.ob i = some o := fun i o hi => allP_mem hl _ (mem_of_lookup hi)
  have hsome : ∀ i, ((Sto.of l s.nx).ob i).isSome = true → (s.ob i).isSome = true := fun i hi => by
    obtain ⟨o, ho⟩ := Option.isSome_iff_exists.1 hi
    rw [hsub i o ho]; rfl
  have hext : ∀ n, Ext n w0 nX s β w (.of l s.nx) β w := fun n => ⟨fun _ _ _ hp => hp, Nat.le_refl _, fun b _ _ hF => ⟨by
    rcases hF with hF | hF
    · exact .inl hF
    · exact .inr ⟨hF.1, fun i c hi => hF.2 i c (hsome i hi)⟩, rfl⟩⟩
  have hs' : SRel w0 F0 (.of l s.nx) β w := by
    refine ⟨hs.below, fun i oi hi => ?_, fun i j b c c' hi hj => hs.inj i j b c c' (hsome i hi) (hsome j hj), fun i hi => ⟨(hs.nx i hi).1, ?_⟩, hs.up, fun i b c hi hb => hs.own i b c (hsome i hi) hb, hs.gl⟩
    · rcases hs.obs i oi (hsub i oi hi) with k1 | ⟨b2, c2, cur2, k1, k2, k3, k4, k5, k6, k7⟩
      · exact .inl k1
      · exact .inr ⟨b2, c2, cur2, k1, k2, k3, k4, k5, k6, fun j d hj => by
          obtain ⟨x, hx, hr⟩ := k7 j d hj
          exact ⟨x, hx, RV.ext hs (Nat.le_refl _) (hext _) hr⟩⟩
    · cases hj : (Sto.of l s.nx).ob i with
      | none => rfl
      | some o => have := hsub i o hj; rw [(hs.nx i hi).2] at this; cases this
  have hx' : Pw w (Fr w0 F0 (.of l s.nx) β) β args vals := ⟨hx.1, fun i d x h1 h2 => RV.ext hs (Nat.le_refl _) (hext _) (hx.2 i d x h1 h2)⟩
  exact (h w0 F0 β w vals hs' hx').mono fun e w' ⟨v, r, s2, β2, he, hk, k1, k2, k3, k4⟩ => ⟨v, r, s2, β2, he, hk, k1, (hext _).trans k2, k3, k4⟩
theorem qsem_bstr {P : Program} {s : Sto} {src dst e : TypeId} {x : Operand} {ρ : Operand → DV} {id n : Nat} {o : DObj} {str : ByteArray} (hs : P.underlying src = some (.slice e)) (he : P.underlying e = some (.int .u8)) (hd : P.underlying dst = some .string)
    (hx : ρ x = .arr id n) (hob : s.ob id = some o) (hn : str.size = n) (hc : o.cells.take n = bytesD str) (hm : Nat.beq o.elem MAPT = false) : QSem P s (.convert src dst x) ρ (.v (.string str)) := fun w0 F0 β w a hs' hρ => by
  refine ⟨.string str, .data (.v _ rfl), fun op w' ho hk => ?_⟩
  have hv := hρ x
  rw [hx] at hv
  have hl : str.data.toList.length = n := by rw [← hn]; exact Array.length_toList
  rcases rv_arr hv with ⟨b, c, hb, hlc, hxe⟩ | ⟨_, h0, hxe⟩
  · rcases hs' id o hob with k1 | ⟨b', c', cur, k1, k2, k3, k4, k5, k6, k7⟩
    · rw [k1.1] at hb; cases hb
    rw [k1] at hb
    simp only [Option.some.injEq, Prod.mk.injEq] at hb
    obtain ⟨rfl, rfl⟩ := hb
    rw [blk_cells hm] at k3
    have hw' : w'.heap[b']? = some (.cells cur o.elem (0, 0)) := by rw [← k3]; exact hk b' (Array.getElem?_eq_some_iff.1 k3).1 (.inr ⟨id, o, c', hob, k1⟩)
    have := run_convert_bytes_back (P := P) w' src dst e ⟨b', 0, none⟩ c' str.data.toList hs he hd (fun j hj => by
      have h1 : (bytesD str)[j]? = some (.v (.int .u8 (str.data.toList[j].toNat : Int))) := by
        simp only [bytesD, Lib.strCells, List.map_map, List.getElem?_map, List.getElem?_eq_getElem hj]; rfl
      rw [← hc, List.getElem?_take, if_pos (by omega)] at h1
      obtain ⟨y, hy, hr⟩ := k7 j _ h1
      rw [Addr.add_lit, Nat.zero_add]
      simp only [World.cell?, hw']
      rw [rv_v hr] at hy
      simpa using hy)
    simp only [execOp, ho, hxe, Sem.run_bind]
    rw [hl] at this
    rw [this]
    rfl
  · subst h0
    have e0 : str = ⟨#[]⟩ := by
      have : str.data = #[] := Array.eq_empty_of_size_eq_zero hn
      cases str; simp only at this; rw [this]
    subst e0
    simp only [execOp, ho, hxe, Sem.run_bind]
    rw [Lib.run_convert_nil_bytes w' src dst e 0 hs he hd]
    rfl
theorem dq_bstr {P : Program} {s : Sto} {src dst e : TypeId} {x : Operand} {ρ : Operand → DV} {g : Bool} {K : DV → Prop} {id n : Nat} {o : DObj} (str : ByteArray) (hs : P.underlying src = some (.slice e)) (he : P.underlying e = some (.int .u8)) (hd : P.underlying dst = some .string)
    (hx : ρ x = .arr id n) (hob : s.ob id = some o) (hn : str.size = n) (hc : o.cells.take n = bytesD str) (hK : K (.v (.string str))) (hm : Nat.beq o.elem MAPT = false := by rfl) : ∃ d, (g = true → QSem P s (.convert src dst x) ρ d) ∧ K d :=
  ⟨_, fun _ => qsem_bstr hs he hd hx hob hn hc hm, hK⟩
end Go.Dl


