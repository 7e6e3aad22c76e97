/-
  The data-level logic, part 7: stores and appends.
-/
import Derived.Test.YtlchjjchgebfiaaGreatDoorDp6
import Derived.Laws.MakeOwn

namespace Go.Dl
open Go Go.RowKit
theorem setManyV_eq (ds : List Value) : ∀ (cs : List Value) (off : Nat), off + ds.length ≤ cs.length → setManyV cs off ds = cs.take off ++ ds ++ cs.drop (off + ds.length) := by
  induction ds with
  | nil => intro cs off h; simp [setManyV]
  | cons d ds ih =>
    intro cs off h
    simp only [List.length_cons] at h
    rw [setManyV, ih _ _ (by simp; omega)]
    apply List.ext_getElem?
    intro i
    simp only [List.getElem?_append, List.length_append, List.length_take, List.length_set, List.getElem?_take, List.getElem?_drop, List.length_cons]
    have hm : min (off + 1) cs.length = off + 1 := by omega
    have hm' : min off cs.length = off := by omega
    rw [hm, hm']
    by_cases h1 : i < off
    · simp [h1, show i < off + 1 by omega, List.getElem?_set_ne (show off ≠ i by omega), show i < off + 1 + ds.length by omega, show i < off + (ds.length + 1) by omega]
    · by_cases h2 : i = off
      · subst h2
        have : i < cs.length := by omega
        simp [this, show i < i + 1 + ds.length by omega]
      · by_cases h3 : i < off + 1 + ds.length
        · simp [h1, show ¬ i < off + 1 by omega, h3, show i < off + (ds.length + 1) by omega, show i - off = (i - (off + 1)) + 1 by omega]
        · have e : off + 1 + ds.length + (i - (off + 1 + ds.length)) = i := by omega
          have e' : off + (ds.length + 1) + (i - (off + (ds.length + 1))) = i := by omega
          simp only [h3, show ¬ i < off + (ds.length + 1) by omega, if_false, e, e']
          rw [List.getElem?_set_ne (by omega)]
section
variable {P : Program} {s : Sto} {ρ : Operand → DV} {K : DV → Sto → Prop}
def Cw (w : World) (F : Nat → Prop) (β : Beta) (ds : List DV) (xs : List Value) : Prop := ∀ (j : Nat) d, ds[j]? = some d → ∃ x, xs[j]? = some x ∧ RV w F β d x
theorem Cw.set {w : World} {F : Nat → Prop} {β : Beta} {d : DV} {x : Value} {ds : List DV} {xs : List Value} (k : Cw w F β ds xs) (h : RV w F β d x) (off : Nat) : Cw w F β (ds.set off d) (xs.set off x) := by
  intro i d' h1
  have hi : i < ds.length := by have := (List.getElem?_eq_some_iff.1 h1).1; simpa using this
  have hix : i < xs.length := by
    obtain ⟨y, hy, _⟩ := k i _ (List.getElem?_eq_getElem hi)
    exact (List.getElem?_eq_some_iff.1 hy).1
  by_cases e : off = i
  · subst e
    rw [List.getElem?_set_self hi] at h1
    cases h1
    exact ⟨x, List.getElem?_set_self hix, h⟩
  · rw [List.getElem?_set_ne e] at h1 ⊢
    exact k i d' h1
theorem Cw.setMany {w : World} {F : Nat → Prop} {β : Beta} (ds : List DV) : ∀ (vs : List Value) (cs : List DV) (xs : List Value) (off : Nat), Cw w F β cs xs → Pw w F β ds vs →
    Cw w F β (setMany cs off ds) (setManyV xs off vs) := by
  induction ds with
  | nil =>
    intro vs cs xs off h k
    have : vs = [] := by have := k.1; simp at this; exact List.length_eq_zero_iff.1 this.symm
    subst this; exact h
  | cons d ds ih =>
    intro vs cs xs off h k
    cases vs with
    | nil => have := k.1; simp at this
    | cons v vs =>
      obtain ⟨k1, k2⟩ := k.tail
      exact ih vs _ _ _ (h.set k1 off) k2
theorem pw_one {w : World} {F : Nat → Prop} {β : Beta} {ds : List DV} {vs : List Value} (h : Pw w F β ds vs) (h1 : ds.all DV.one = true) : ∀ v ∈ vs, v.oneCell' = true := fun v hv => by
  obtain ⟨i, hi⟩ := List.mem_iff_getElem?.1 hv
  have hlt : i < ds.length := by rw [h.1]; exact (List.getElem?_eq_some_iff.1 hi).1
  exact rv_one (h.2 i _ v (List.getElem?_eq_getElem hlt) hi) (List.all_eq_true.1 h1 _ (List.getElem_mem hlt))
theorem below_setRow [Inhabited GlobS] (w : World) (b : Nat) (cs : Array Value) : BelowD b w (w.setRow b cs) :=
  ⟨rfl, rfl, rfl, by simp, fun k hk => setRow_other w b k cs (by omega), fun _ => Nat.le_refl _⟩
theorem esem_store [Inhabited GlobS] {t : TypeId} {x y : Operand} (h : de P s ρ (.store t x y) K) : ESem P s (.store t x y) ρ K := by
  simp only [de] at h
  obtain ⟨h, ha⟩ := evg_sound2 _ h
  obtain ⟨dx, h, hx⟩ := evg_sound _ h
  generalize hda : str0 (ρ x) = da at h ha
  split at h
  · rename_i id off
    split at h
    · rename_i o ds n hob hds hn
      obtain ⟨hm, h⟩ := cellsO_is h
      rw [forceN_eq] at h
      obtain ⟨⟨h1, h2, h3⟩, hK⟩ := h
      intro w0 F0 β w a hs hρ
      obtain ⟨b, c, hb, he⟩ := rv_ref (ha rfl _ _ _ _ (hρ x))
      have hpw := cells_pw (hx rfl _ _ _ _ (hρ y)) hds
      rcases hs.obs id o hob with g | ⟨b', c', cur, g1, g2, g3, g4, g5, g6, g7⟩
      · rw [g.1] at hb; cases hb
      rw [g1] at hb
      simp only [Option.some.injEq, Prod.mk.injEq] at hb
      obtain ⟨rfl, rfl⟩ := hb
      rw [blk_cells hm] at g3
      have hlen : ds.length = (a.eval y).cells.toList.length := hpw.1
      have hlen' : (a.eval y).cells.size = ds.length := by simpa using hlen.symm
      have hcw : Cw w (Fr w0 F0 s β) β o.cells cur.toList := fun j d hj => by
        obtain ⟨z, hz, hr⟩ := g7 j d hj
        exact ⟨z, by simpa using hz, hr⟩
      have hcw' := hcw.setMany ds _ _ _ off hpw
      have hst := run_storeCells_at P b' off o.elem (a.eval y).cells.toList 0 cur w g3 (by rw [← hlen]; omega) (pw_one hpw h3)
      have hfit : off + (a.eval y).cells.toList.length ≤ cur.toList.length := by rw [← hlen]; simp; omega
      have heq := setManyV_eq (a.eval y).cells.toList cur.toList off hfit
      simp only [Nat.add_zero] at hst
      rw [← heq] at hst
      have hsz : (setManyV cur.toList off (a.eval y).cells.toList).toArray.size = cur.size := by simp [length_setManyV]
      obtain ⟨k1, k2⟩ := hs.rewrite id o hob b' c' g1 (w.setRow b' (setManyV cur.toList off (a.eval y).cells.toList).toArray) _ (setMany o.cells off ds) (below_setRow w b' _) (fun k hk => setRow_other w b' k _ hk)
        (by rw [blk_cells hm]; exact setRow_heap w b' cur _ _ _ g3) (by rw [hsz]; exact g4) (by rw [hsz, length_setMany]; exact g6) (fun j d hj => by
          obtain ⟨z, hz, hr⟩ := hcw' j d hj
          exact ⟨z, by simpa using hz, hr⟩)
      refine ⟨.skip, undef, _, _, _, β, .inr ⟨rfl, rfl⟩, fun op ho => ?_, hK, k1, k2 _, Nat.le_refl _, .tup [] [] rfl (fun i d x h => by simp at h), fun b2 _ h2 => setRow_other w b' b2 _ (fun e => h2 id c' (by simp [etgt, hda]) (by rw [e]; exact g1)), fun i b2 c2 hi hb2 _ => .inl ⟨by
        by_cases e : i = id
        · subst e; simp [hob]
        · simpa only [upd_ne _ _ _ e] using hi, hb2⟩⟩
      have hn' : ∃ i, P.info? t = some i ∧ i.size = n := by
        unfold tySz at hn
        cases hi : P.info? t with
        | none => simp [hi] at hn
        | some i => exact ⟨i, rfl, by simpa [hi] using hn⟩
      obtain ⟨i, hi, hin⟩ := hn'
      simp only [execOp, ho, he, Instr.storeAt, Instr.sureAddr, storeVar, Sem.run_bind, Sem.run_pure, Result.andThen_ok, run_sizeOf hi]
      rw [if_neg (by rw [hlen', h1, hin]; simp)]
      rw [hst]
      rfl
    · exact h.elim
  · exact h.elim
theorem dsrc_sound [Inhabited GlobS] {w0 w : World} {F0 : Nat → Prop} {β : Beta} {sz m : Nat} {d : DV} {news : List DV} (hs : SRel w0 F0 s β w) (h0 : 0 < sz) (h : dsrc s sz d = some (m, news)) {x : Value} (hx : RV w (Fr w0 F0 s β) β d x) :
    news.length = m * sz ∧ ((x = .slice none 0 0 ∧ m = 0) ∨ ∃ ad c vs, x = .slice (some ad) m c ∧ Pw w (Fr w0 F0 s β) β news vs ∧ (∀ v ∈ vs, v.oneCell' = true) ∧ ∀ (j : Nat) u, vs[j]? = some u → w.cell? (ad.add j) = some u) := by
  unfold dsrc at h
  split at h
  · rename_i id k
    split at h
    · rename_i o hob
      split at h
      · rename_i hc
        obtain ⟨⟨hle, hone⟩, hm⟩ := hc
        simp only [Option.some.injEq, Prod.mk.injEq] at h
        obtain ⟨rfl, rfl⟩ := h
        refine ⟨by simp; omega, ?_⟩
        rcases rv_arr hx with ⟨b, c, hb, hlc, rfl⟩ | ⟨hb, rfl, rfl⟩
        · rcases hs.obs id o hob with g | ⟨b', c', cur, g1, g2, g3, g4, g5, g6, g7⟩
          · rw [g.1] at hb; cases hb
          rw [g1] at hb
          simp only [Option.some.injEq, Prod.mk.injEq] at hb
          obtain ⟨rfl, rfl⟩ := hb
          rw [blk_cells hm] at g3
          have hpw : Pw w (Fr w0 F0 s β) β (o.cells.take (k * sz)) (cur.toList.take (k * sz)) := by
            refine ⟨by simp; omega, fun j d y h1 h2 => ?_⟩
            rw [List.getElem?_take] at h1 h2
            split at h1
            · rename_i hj
              obtain ⟨z, hz, hr⟩ := g7 j d h1
              rw [if_pos hj] at h2
              rw [Array.getElem?_toList, hz] at h2
              cases h2; exact hr
            · cases h1
          refine .inr ⟨_, _, cur.toList.take (k * sz), rfl, hpw, pw_one hpw hone, fun j u hu => ?_⟩
          rw [List.getElem?_take] at hu
          split at hu
          · rw [Addr.add_lit, Nat.zero_add]; simpa [World.cell?, g3] using hu
          · cases hu
        · exact .inl ⟨rfl, rfl⟩
      · cases h
    · cases h
  · rename_i id off k
    split at h
    · rename_i o hob
      split at h
      · rename_i hc
        obtain ⟨⟨hle, hone⟩, hm⟩ := hc
        simp only [Option.some.injEq, Prod.mk.injEq] at h
        obtain ⟨rfl, rfl⟩ := h
        refine ⟨by simp; omega, ?_⟩
        obtain ⟨ad, n, rfl, q1, q2, q3⟩ := rv_sub hx
        by_cases h00 : 0 < k
        · obtain ⟨b, c, hb, rfl⟩ := q1 h00
          rcases hs.obs id o hob with g | ⟨b', c', cur, g1, g2, g3, g4, g5, g6, g7⟩
          · rw [g.1] at hb; cases hb
          rw [g1] at hb
          simp only [Option.some.injEq, Prod.mk.injEq] at hb
          obtain ⟨rfl, rfl⟩ := hb
          rw [blk_cells hm] at g3
          have hcl : o.cells.length ≤ cur.toList.length := by simpa using g6
          have hpw : Pw w (Fr w0 F0 s β) β ((o.cells.drop off).take (k * sz)) ((cur.toList.drop off).take (k * sz)) := by
            refine ⟨by simp only [List.length_take, List.length_drop]; omega, fun j d y h1 h2 => ?_⟩
            rw [List.getElem?_take] at h1 h2
            split at h1
            · rename_i hj
              rw [List.getElem?_drop] at h1
              obtain ⟨z, hz, hr⟩ := g7 (off + j) d h1
              rw [if_pos hj, List.getElem?_drop] at h2
              rw [Array.getElem?_toList, hz] at h2
              cases h2; exact hr
            · cases h1
          refine .inr ⟨_, _, (cur.toList.drop off).take (k * sz), rfl, hpw, pw_one hpw hone, fun j u hu => ?_⟩
          rw [List.getElem?_take] at hu
          split at hu
          · rw [List.getElem?_drop] at hu
            rw [Addr.add_lit]; simpa [World.cell?, g3] using hu
          · cases hu
        · have hk0 : k = 0 := by omega
          subst hk0
          cases ad with
          | none => have := q2 rfl; subst this; exact .inl ⟨rfl, rfl⟩
          | some ad => exact .inr ⟨ad, n, [], rfl, by simpa using Pw.nil, fun v hv => by simp at hv, fun j u hu => by simp at hu⟩
      · cases h
    · cases h
  · rename_i sz' es
    split at h
    · rename_i e
      subst e
      simp only [Option.some.injEq, Prod.mk.injEq] at h
      obtain ⟨rfl, rfl⟩ := h
      cases hx with
      | data hx =>
        cases hx with
        | lst _ _ a b off cap g ha hn hc hm hsz hcell hd =>
          have hflat : ∀ (es : List (List DV)), (∀ (i : Nat) cs, es[i]? = some cs → cs.length = sz') → es.flatten.length = es.length * sz' ∧
              ∀ (i j : Nat) cs, es[i]? = some cs → j < sz' → es.flatten[i * sz' + j]? = cs[j]? := fun es => by
            induction es with
            | nil => intro _; simp
            | cons e es ih =>
              intro hsz
              have he : e.length = sz' := hsz 0 e rfl
              obtain ⟨i1, i2⟩ := ih (fun i cs h => hsz (i + 1) cs (by simpa using h))
              refine ⟨by simp [i1, he, Nat.succ_mul, Nat.add_comm], fun i j cs h hj => ?_⟩
              cases i with
              | zero =>
                simp at h; subst h
                simp [List.getElem?_append, he, hj]
              | succ i =>
                rw [List.flatten_cons, List.getElem?_append, if_neg (by rw [he, Nat.succ_mul]; omega), he]
                rw [show (i + 1) * sz' + j - sz' = i * sz' + j by rw [Nat.succ_mul]; omega]
                exact i2 i j cs (by simpa using h) hj
          obtain ⟨f1, f2⟩ := hflat es hsz
          refine ⟨f1, ?_⟩
          cases a with
          | none =>
            have := hn rfl
            have he : es.length = 0 := by omega
            exact .inl ⟨by rw [he, this], he⟩
          | some ad =>
            refine .inr ⟨ad, cap, (List.range (es.length * sz')).map fun k => g (k / sz') (k % sz'), rfl, ?_⟩
            have hget : ∀ (j : Nat) u, ((List.range (es.length * sz')).map fun k => g (k / sz') (k % sz'))[j]? = some u → j < es.length * sz' ∧ u = g (j / sz') (j % sz') := fun j u hu => by
              have hlt : j < es.length * sz' := by have := (List.getElem?_eq_some_iff.1 hu).1; simpa using this
              simp [hlt] at hu
              exact ⟨hlt, hu.symm⟩
            have hpt : ∀ (j : Nat), j < es.length * sz' → ∃ cs d, es[j / sz']? = some cs ∧ cs[j % sz']? = some d ∧ es.flatten[j]? = some d := fun j hj => by
              have h1 : j / sz' < es.length := Nat.div_lt_of_lt_mul (by rw [Nat.mul_comm]; exact hj)
              have h2 : j % sz' < sz' := Nat.mod_lt _ h0
              have hl := hsz _ _ (List.getElem?_eq_getElem h1)
              refine ⟨es[j / sz'], es[j / sz'][j % sz'], List.getElem?_eq_getElem h1, List.getElem?_eq_getElem (by omega), ?_⟩
              have := f2 (j / sz') (j % sz') _ (List.getElem?_eq_getElem h1) h2
              rw [Nat.div_add_mod'] at this
              rw [this]; exact List.getElem?_eq_getElem (by omega)
            refine ⟨⟨by simp [f1], fun j d y h1 h2 => ?_⟩, fun v hv => ?_, fun j u hu => ?_⟩
            · obtain ⟨hlt, rfl⟩ := hget j y h2
              obtain ⟨cs, d', k1, k2, k3⟩ := hpt j hlt
              rw [h1] at k3
              cases k3
              exact .data (hd _ _ _ _ k1 k2)
            · obtain ⟨j, hj⟩ := List.mem_iff_getElem?.1 hv
              obtain ⟨hlt, rfl⟩ := hget j v hj
              obtain ⟨cs, d', k1, k2, k3⟩ := hpt j hlt
              exact (hd _ _ _ _ k1 k2).one
            · obtain ⟨hlt, rfl⟩ := hget j u hu
              obtain ⟨cs, d', k1, k2, k3⟩ := hpt j hlt
              have hne : es ≠ [] := fun e => by subst e; simp at k1
              have := ha hne
              simp only [Option.some.injEq] at this
              subst this
              have h5 := (hcell _ _ _ _ k1 k2).1
              rw [Addr.add_lit]
              rw [Nat.add_assoc, Nat.div_add_mod'] at h5
              exact h5
    · cases h
  · simp only [Option.some.injEq, Prod.mk.injEq] at h
    obtain ⟨rfl, rfl⟩ := h
    exact ⟨by simp, .inl ⟨rv_v hx, rfl⟩⟩
  · rename_i ad c
    simp only [Option.some.injEq, Prod.mk.injEq] at h
    obtain ⟨rfl, rfl⟩ := h
    exact ⟨by simp, .inr ⟨ad, c, [], rv_v hx, .nil, fun v hv => by simp at hv, fun j u hu => by simp at hu⟩⟩
  · cases h
theorem esem_append [Inhabited GlobS] {x y : Operand} {t : TypeId} (h : evg true (ρ x) fun dx => evg true (ρ y) fun dy => dapp P s t dx dy K) : ESem P s (.call ⟨.builtin .append, #[x, y], #[t, t]⟩) ρ K := by
  obtain ⟨h, hx⟩ := evg_sound2 _ h
  obtain ⟨dy, h, hy⟩ := evg_sound _ h
  generalize hdx : str0 (ρ x) = dx at h hx
  unfold dapp at h
  split at h
  · rename_i e sz bytes z hel
    obtain ⟨i, zv, t1, t2, t3, t4, t5, t6, t7, t8, t9⟩ := elemI_some hel
    obtain ⟨hmt, h1⟩ := cellsO_is h
    clear h
    obtain ⟨m, news, hsrc, h⟩ := dsrcK_sound h1
    · intro w0 F0 β w a hs hρ
      obtain ⟨hnl, hsv⟩ := dsrc_sound hs t9 hsrc (hy rfl _ _ _ _ (hρ y))
      have hvx := hx rfl _ _ _ _ (hρ x)
      -- the run, as the builtin's
      have hrun : ∀ (v : Value) (w' : World), (∀ ty, (Builtin.append_ #[t, t] ty #[a.eval x, a.eval y]).run P w = .ok v w') → ∀ (o : Oper), o.op = .call ⟨.builtin .append, #[x, y], #[t, t]⟩ → (execOp a.eval o).run P w = .ok (.value v) w' := fun v w' hr o ho => by
        simp only [execOp, ho, resolve, invoke, builtin, Sem.run_bind, Sem.run_pure, Result.andThen_ok, List.map_toArray, List.map_cons, List.map_nil, hr]
      -- a new block
      have grown : ∀ (s1 : Sto) (_ : SRel w0 F0 s1 β w) (_ : Ext s.nx w0 nX s β w s1 β w) (_ : s1.nx = s.nx) (_ : ∀ i, (s1.ob i).isSome = true → (s.ob i).isSome = true) (old : Nat) (n : Nat) (olds : List DV) (ovs : List Value), old < n + m → n + m ≤ maxLen → olds.length = n * sz →
          Pw w (Fr w0 F0 s1 β) β olds ovs → (∃ vs, Pw w (Fr w0 F0 s1 β) β news vs ∧
            ∀ ty, (Builtin.append_ #[t, t] ty #[a.eval x, a.eval y]).run P w = .ok (.slice (some ⟨w.heap.size, 0, none⟩) (n + m) (grownCap w (n + m) old e)) (w.drew.alloc (.cells (ovs.toArray ++ vs.toArray ++ Builtin.zeroCells zv.cells (grownCap w (n + m) old e - (n + m))) e))) →
          K (.arr s.nx (n + m)) ⟨upd s1.ob s.nx (some ⟨e, sz, olds ++ news⟩), s.nx + 1⟩ →
          ∃ nx v w' d s' β', (nx = .value v ∨ (nx = .skip ∧ v = undef)) ∧ (∀ (o : Oper), o.op = .call ⟨.builtin .append, #[x, y], #[t, t]⟩ → (execOp a.eval o).run P w = .ok nx w') ∧ K d s' ∧
            SRel w0 F0 s' β' w' ∧ Ext s.nx w0 nX s β w s' β' w' ∧ s.nx ≤ s'.nx ∧ RV w' (Fr w0 F0 s' β') β' d v ∧ Oth β (etgt ρ (.call ⟨.builtin .append, #[x, y], #[t, t]⟩)) w w' ∧ Nb s s' β β' (etgt ρ (.call ⟨.builtin .append, #[x, y], #[t, t]⟩)) w := by
        intro s1 hs1 hext hnx hso old n olds ovs hold hml hol hpo ⟨vs, hpv, hr⟩ hK
        have hge := grownCap_ge w (n + m) old e
        have hcm : grownCap w (n + m) old e ≤ maxLen := grownCap_le_maxLen w (n + m) old e hml
        have hbd : BelowD w.heap.size w w.drew := ⟨rfl, rfl, rfl, Nat.le_refl _, fun _ _ => rfl, fun _ => Nat.le_succ _⟩
        obtain ⟨hs2, hext2⟩ := hs1.below' hbd
        have hvl : vs.length = m * sz := by rw [← hpv.1]; exact hnl
        have hovl : ovs.length = n * sz := by rw [← hpo.1]; exact hol
        have hzl : (Builtin.zeroCells zv.cells (grownCap w (n + m) old e - (n + m))).size = (grownCap w (n + m) old e - (n + m)) * sz := by rw [size_zeroCells, t8]
        have hcur : (ovs.toArray ++ vs.toArray ++ Builtin.zeroCells zv.cells (grownCap w (n + m) old e - (n + m))).size = grownCap w (n + m) old e * sz := by
          simp only [Array.size_append, List.size_toArray, hvl, hovl, hzl, ← Nat.add_mul]
          congr 1; omega
        have hlen : (olds ++ news).length ≤ (ovs.toArray ++ vs.toArray ++ Builtin.zeroCells zv.cells (grownCap w (n + m) old e - (n + m))).size := by
          rw [hcur, List.length_append, hol, hnl, ← Nat.add_mul]; exact Nat.mul_le_mul_right _ hge
        obtain ⟨k1, k2⟩ := hs2.alloc s.nx (by rw [← hnx]; exact hs2.fresh.1) (by rw [← hnx]; exact hs2.fresh.2) (s.nx + 1) (by omega) (by omega) ⟨e, sz, olds ++ news⟩ _ (grownCap w (n + m) old e) hcur hcm hlen (fun j d hj => by
          rw [List.getElem?_append] at hj
          split at hj
          · rename_i hjl
            have hjo : j < ovs.length := by rw [← hpo.1]; exact hjl
            refine ⟨ovs[j], ?_, RV.ext hs1 (Nat.le_refl _) (hext2 _) (hpo.2 j d _ hj (List.getElem?_eq_getElem hjo))⟩
            rw [Array.getElem?_append_left (by simp; omega), Array.getElem?_append_left (by simpa using hjo)]
            simp
          · rename_i hjl
            have hjn : j - olds.length < vs.length := by rw [← hpv.1]; exact (List.getElem?_eq_some_iff.1 hj).1
            refine ⟨vs[j - olds.length], ?_, RV.ext hs1 (Nat.le_refl _) (hext2 _) (hpv.2 _ d _ hj (List.getElem?_eq_getElem hjn))⟩
            have hlo := hpo.1
            rw [Array.getElem?_append_left (by simp; omega), Array.getElem?_append_right (by simp; omega)]
            simp [hlo])
        dsimp only at k1 k2
        rw [blk_cells hmt] at k1 k2
        refine ⟨_, .slice (some ⟨w.heap.size, 0, none⟩) (n + m) (grownCap w (n + m) old e), _, _, _, _, .inl rfl, hrun _ _ hr, hK, k1, (hext.trans ((hext2 _).trans (k2 _))), Nat.le_succ _, ?_⟩
        exact ⟨.arr _ _ w.heap.size _ (by simp) hge, fun b2 hb2 _ => heap_alloc_old w.drew _ hb2, .new s.nx (fun i e hi => hso i (by simpa only [upd_ne _ _ _ e] using hi)) (fun i e => upd_ne _ _ _ e) (fun b c' hb => by simp at hb; exact Nat.le_of_eq hb.1)⟩
      -- nothing to append to nothing
      have hnil : a.eval x = .slice none 0 0 → ∀ (s1 : Sto) (_ : SRel w0 F0 s1 β w) (_ : Ext s.nx w0 nX s β w s1 β w) (_ : s1.nx = s.nx) (_ : ∀ i, (s1.ob i).isSome = true → (s.ob i).isSome = true) (olds : List DV), olds = [] → m * bytes ≤ 140737488355328 → m ≤ maxLen →
          K (.arr s.nx (0 + m)) ⟨upd s1.ob s.nx (some ⟨e, sz, olds ++ news⟩), s.nx + 1⟩ →
          ∃ nx v w' d s' β', (nx = .value v ∨ (nx = .skip ∧ v = undef)) ∧ (∀ (o : Oper), o.op = .call ⟨.builtin .append, #[x, y], #[t, t]⟩ → (execOp a.eval o).run P w = .ok nx w') ∧ K d s' ∧
            SRel w0 F0 s' β' w' ∧ Ext s.nx w0 nX s β w s' β' w' ∧ s.nx ≤ s'.nx ∧ RV w' (Fr w0 F0 s' β') β' d v ∧ Oth β (etgt ρ (.call ⟨.builtin .append, #[x, y], #[t, t]⟩)) w w' ∧ Nb s s' β β' (etgt ρ (.call ⟨.builtin .append, #[x, y], #[t, t]⟩)) w := by
        intro hxe s1 hs1 hext hnx hso olds hol hb hml hK
        subst hol
        by_cases hm : m = 0
        · subst hm
          have hn : news = [] := List.eq_nil_of_length_eq_zero (by simpa using hnl)
          subst hn
          obtain ⟨k1, k2⟩ := hs1.nilObj s.nx (s.nx + 1) (by rw [← hnx]; exact hs1.fresh.1) (by rw [← hnx]; exact hs1.fresh.2) (by omega) (by omega) ⟨e, sz, [] ++ []⟩ rfl
          refine ⟨_, .slice none 0 0, w, _, _, _, .inl rfl, hrun _ _ (fun ty => ?_), hK, k1, hext.trans (k2 _), Nat.le_succ _, .arrNil _ (by simp), fun _ _ _ => rfl, .new s.nx (fun i e hi => hso i (by simpa only [upd_ne _ _ _ e] using hi)) (fun i e => upd_ne _ _ _ e) (fun b c' hb => by simp at hb)⟩
          rw [hxe]
          rcases hsv with ⟨he, _⟩ | ⟨ad, c, vs, he, hpv, hv1, hvc⟩
          · rw [he]; simp [Builtin.append_, run_underlying t1, sizeOf, typeInfo, t2, Builtin.lenOf, Builtin.firstCells]
          · rw [he]; simp [Builtin.append_, run_underlying t1, sizeOf, typeInfo, t2, Builtin.lenOf, Builtin.firstCells, loadCells, loadCellsFrom]
        · rcases hsv with ⟨_, he⟩ | ⟨ad, c, vs, he, hpv, hv1, hvc⟩
          · exact absurd he hm
          have hpv1 : Pw w (Fr w0 F0 s1 β) β news vs := ⟨hpv.1, fun j d u h1 h2 => RV.ext hs (Nat.le_refl _) hext (hpv.2 j d u h1 h2)⟩
          refine grown s1 hs1 hext hnx hso 0 0 [] [] (by omega) (by omega) (by simp) .nil ⟨vs, hpv1, fun ty => ?_⟩ hK
          have := run_append_nil (P := P) w t ty e i zv t1 t2 t5 ad m c vs (by rw [← hpv.1, hnl, t3]) hvc (by omega) (by simp only [maxLen] at hml; omega) (by rw [t4]; omega)
          rw [hxe, he, this]
          simp
      split at h
      · obtain ⟨⟨hb, hml⟩, hK⟩ := h
        have hxe := rv_v hvx
        have := hnil hxe s hs .refl rfl (fun _ h => h) [] rfl hb hml (by simpa using hK)
        exact this
      · rename_i id n
        split at h
        · rename_i ob hob
          rcases h with h | h
          case here =>
            obtain ⟨⟨he1, he2, hle⟩, hK⟩ := h
            have hmul : (n + m) * sz = n * sz + m * sz := Nat.add_mul ..
            rcases rv_arr hvx with ⟨b, c, hbb, hlc, hxe⟩ | ⟨hbb, rfl, hxe⟩
            · rcases hs.obs id ob hob with g | ⟨b', c', cur, g1, g2, g3, g4, g5, g6, g7⟩
              · rw [g.1] at hbb; cases hbb
              rw [g1] at hbb
              simp only [Option.some.injEq, Prod.mk.injEq] at hbb
              obtain ⟨rfl, rfl⟩ := hbb
              have hmo : Nat.beq ob.elem MAPT = false := by rw [he1]; exact hmt
              rw [blk_cells hmo] at g3
              have hroom : n + m ≤ c' := by
                rw [g4, he2] at g6
                exact Nat.le_of_mul_le_mul_right (by omega : (n + m) * sz ≤ c' * sz) t9
              have place : ∀ (vs : List Value), Pw w (Fr w0 F0 s β) β news vs → ∀ (w' : World) (cur' : Array Value), BelowD b' w w' → (∀ k, k ≠ b' → w'.heap[k]? = w.heap[k]?) → w'.heap[b']? = some (.cells cur' e (0, 0)) →
                  cur'.size = cur.size → (∀ j, j < n * sz ∨ n * sz + m * sz ≤ j → cur'[j]? = cur[j]?) → (∀ (j : Nat) u, vs[j]? = some u → cur'[n * sz + j]? = some u) →
                  (∀ ty, (Builtin.append_ #[t, t] ty #[a.eval x, a.eval y]).run P w = .ok (.slice (some ⟨b', 0, none⟩) (n + m) c') w') →
                  ∃ nx v w' d s' β', (nx = .value v ∨ (nx = .skip ∧ v = undef)) ∧ (∀ (o : Oper), o.op = .call ⟨.builtin .append, #[x, y], #[t, t]⟩ → (execOp a.eval o).run P w = .ok nx w') ∧ K d s' ∧
                    SRel w0 F0 s' β' w' ∧ Ext s.nx w0 nX s β w s' β' w' ∧ s.nx ≤ s'.nx ∧ RV w' (Fr w0 F0 s' β') β' d v ∧ Oth β (etgt ρ (.call ⟨.builtin .append, #[x, y], #[t, t]⟩)) w w' ∧ Nb s s' β β' (etgt ρ (.call ⟨.builtin .append, #[x, y], #[t, t]⟩)) w := by
                intro vs hpv w' cur' hbel hoth hnew hcs hkeep hput hr
                have hvl : vs.length = m * sz := by rw [← hpv.1]; exact hnl
                obtain ⟨k1, k2⟩ := hs.rewrite id ob hob b' c' g1 w' cur' (ob.cells.take (n * sz) ++ news ++ ob.cells.drop (n * sz + m * sz)) hbel hoth (by rw [hnew, blk_cells hmo, he1]) (by rw [hcs]; exact g4)
                  (by rw [hcs]; simp only [List.length_append, List.length_take, List.length_drop, hnl]; omega) (fun j d hj => by
                    have hll : (ob.cells.take (n * sz)).length = n * sz := by simp; omega
                    rw [List.getElem?_append] at hj
                    split at hj
                    · rename_i hjA
                      rw [List.getElem?_append] at hj
                      rw [hll] at hj
                      split at hj
                      · rename_i hjl
                        have hj2 : ob.cells[j]? = some d := by rw [List.getElem?_take, if_pos hjl] at hj; exact hj
                        obtain ⟨q, hq, hr2⟩ := g7 j d hj2
                        exact ⟨q, by rw [hkeep j (.inl hjl)]; exact hq, hr2⟩
                      · rename_i hjl
                        have hjn : j - n * sz < vs.length := by rw [← hpv.1]; exact (List.getElem?_eq_some_iff.1 hj).1
                        refine ⟨vs[j - n * sz], ?_, hpv.2 _ d _ hj (List.getElem?_eq_getElem hjn)⟩
                        have := hput (j - n * sz) _ (List.getElem?_eq_getElem hjn)
                        rwa [show n * sz + (j - n * sz) = j by omega] at this
                    · rename_i hjA
                      simp only [List.length_append, hll, hnl] at hjA hj
                      rw [List.getElem?_drop, show n * sz + m * sz + (j - (n * sz + m * sz)) = j by omega] at hj
                      obtain ⟨q, hq, hr2⟩ := g7 j d hj
                      exact ⟨q, by rw [hkeep j (.inr (by omega))]; exact hq, hr2⟩)
                exact ⟨_, .slice (some ⟨b', 0, none⟩) (n + m) c', w', _, _, β, .inl rfl, hrun _ _ hr, hK, k1, k2 _, Nat.le_refl _, .arr _ _ b' c' g1 hroom, fun b2 _ h2 => hoth b2 (fun e => h2 id c' (by simp [etgt, hdx]) (by rw [e]; exact g1)), fun i b2 c2 hi hb2 _ => .inl ⟨by
                  by_cases e : i = id
                  · subst e; simp [hob]
                  · simpa only [upd_ne _ _ _ e] using hi, hb2⟩⟩
              rcases hsv with ⟨he, hm0⟩ | ⟨ad, cc, vs, he, hpv, hv1, hvc⟩
              · subst hm0
                have hn0 : news = [] := List.eq_nil_of_length_eq_zero (by simpa using hnl)
                subst hn0
                refine place [] .nil w cur (.refl _ _) (fun _ _ => rfl) (by rw [g3, he1]) rfl (fun _ _ => rfl) (fun j u h => by simp at h) (fun ty => ?_)
                rw [hxe, he]
                have hr0 : n ≤ c' := by omega
                simp [Builtin.append_, run_underlying t1, sizeOf, typeInfo, t2, Builtin.lenOf, Builtin.firstCells, hr0, storeCells]
              · have hvl : vs.length = m * sz := by rw [← hpv.1]; exact hnl
                have hfit : n * i.size + vs.length ≤ cur.size := by rw [hvl, t3, g4, he2, ← Nat.add_mul]; exact Nat.mul_le_mul_right _ hroom
                have hr := fun ty => run_append_room (P := P) w t ty e i t1 t2 b' n c' cur (by rw [g3, he1]) ad m cc vs (by rw [hvl, t3]) hvc hv1 hroom hfit
                have hl1 : n * sz + vs.length ≤ cur.toList.length := by rw [← t3]; simpa using hfit
                have hpol : (cur.toList.take (n * sz)).length = n * sz := by simp only [List.length_take]; omega
                refine place vs hpv _ (cur.toList.take (n * sz) ++ vs ++ cur.toList.drop (n * sz + vs.length)).toArray (below_setRow w b' _) (fun k hk => setRow_other w b' k _ hk) (by rw [setRow_heap w b' cur _ ob.elem _ g3, he1]) ?_ (fun j hj => ?_) (fun j u hu => ?_) (fun ty => by rw [hxe, he, hr ty, t3])
                · simp at hl1 ⊢; omega
                · simp only [List.getElem?_toArray]
                  rcases hj with hj | hj
                  · rw [List.append_assoc, List.getElem?_append_left (by omega), List.getElem?_take, if_pos hj]; simp
                  · rw [List.getElem?_append_right (by simp only [List.length_append, hpol]; omega), List.length_append, hpol, List.getElem?_drop, show n * sz + vs.length + (j - (n * sz + vs.length)) = j by omega]; simp
                · have hju := (List.getElem?_eq_some_iff.1 hu).1
                  simp only [List.getElem?_toArray]
                  rw [List.append_assoc, List.getElem?_append_right (by omega), hpol, List.getElem?_append_left (by omega)]
                  rw [show n * sz + j - n * sz = j by omega]; exact hu
            · have hc0 : ob.cells = [] := by
                rcases hs.obs id ob hob with g | ⟨b', c', cur, g1, _⟩
                · exact g.2
                · rw [g1] at hbb; cases hbb
              rw [hc0] at hle hK
              have hm0 : m = 0 := by
                simp only [List.length_nil, Nat.zero_add, Nat.le_zero, Nat.mul_eq_zero] at hle
                omega
              subst hm0
              have hn0 : news = [] := List.eq_nil_of_length_eq_zero (by simpa using hnl)
              subst hn0
              have hsame : (⟨upd s.ob id (some { ob with cells := List.take (0 * sz) [] ++ [] ++ List.drop (0 * sz + 0 * sz) [] }), s.nx⟩ : Sto) = s := by
                have h1 : ({ ob with cells := List.take (0 * sz) [] ++ [] ++ List.drop (0 * sz + 0 * sz) [] } : DObj) = ob := by
                  obtain ⟨a1, a2, a3⟩ := ob
                  simp only at hc0
                  subst hc0
                  simp
                rw [h1]
                have h2 : upd s.ob id (some ob) = s.ob := by
                  funext k
                  by_cases e : k = id
                  · subst e; simp [hob]
                  · rw [upd_ne _ _ _ e]
                rw [h2]
              rw [hsame] at hK
              refine ⟨_, .slice none 0 0, w, _, s, β, .inl rfl, hrun _ _ (fun ty => ?_), hK, hs, .refl, Nat.le_refl _, .arrNil _ hbb, fun _ _ _ => rfl, fun i b2 c2 hi hb2 _ => .inl ⟨hi, hb2⟩⟩
              rw [hxe]
              rcases hsv with ⟨he, _⟩ | ⟨ad, c, vs, he, hpv, hv1, hvc⟩
              · rw [he]; simp [Builtin.append_, run_underlying t1, sizeOf, typeInfo, t2, Builtin.lenOf, Builtin.firstCells]
              · rw [he]; simp [Builtin.append_, run_underlying t1, sizeOf, typeInfo, t2, Builtin.lenOf, Builtin.firstCells, loadCells, loadCellsFrom]
          obtain ⟨⟨he1, he2, hle, hb, hml⟩, hK⟩ := h
          have hdrop := hs.drop id
          have hdso : ∀ i, ((upd s.ob id none) i).isSome = true → (s.ob i).isSome = true := fun i hi => by
            by_cases e : i = id
            · subst e; simp at hi
            · simpa only [upd_ne _ _ _ e] using hi
          rcases rv_arr hvx with ⟨b, c, hbb, hlc, hxe⟩ | ⟨hbb, rfl, hxe⟩
          · rcases hs.obs id ob hob with g | ⟨b', c', cur, g1, g2, g3, g4, g5, g6, g7⟩
            · rw [g.1] at hbb; cases hbb
            rw [g1] at hbb
            simp only [Option.some.injEq, Prod.mk.injEq] at hbb
            obtain ⟨rfl, rfl⟩ := hbb
            have hmo : Nat.beq ob.elem MAPT = false := by rw [he1]; exact hmt
            rw [blk_cells hmo] at g3
            have hpo : Pw w (Fr w0 F0 s β) β (ob.cells.take (n * sz)) (cur.toList.take (n * sz)) := by
              refine ⟨by simp; omega, fun j d u h1 h2 => ?_⟩
              rw [List.getElem?_take] at h1 h2
              split at h1
              · rename_i hj
                obtain ⟨q, hq, hr⟩ := g7 j d h1
                rw [if_pos hj, Array.getElem?_toList, hq] at h2
                cases h2; exact hr
              · cases h1
            have hpol : (cur.toList.take (n * sz)).length = n * sz := by rw [← hpo.1]; simp; omega
            by_cases hroom : n + m ≤ c'
            · -- in place
              have place : ∀ (vs : List Value), Pw w (Fr w0 F0 s β) β news vs → ∀ (w' : World) (cur' : Array Value), BelowD b' w w' → (∀ k, k ≠ b' → w'.heap[k]? = w.heap[k]?) → w'.heap[b']? = some (.cells cur' e (0, 0)) →
                  cur'.size = cur.size → (∀ j, j < n * sz → cur'[j]? = cur[j]?) → (∀ (j : Nat) u, vs[j]? = some u → cur'[n * sz + j]? = some u) →
                  (∀ ty, (Builtin.append_ #[t, t] ty #[a.eval x, a.eval y]).run P w = .ok (.slice (some ⟨b', 0, none⟩) (n + m) c') w') →
                  ∃ nx v w' d s' β', (nx = .value v ∨ (nx = .skip ∧ v = undef)) ∧ (∀ (o : Oper), o.op = .call ⟨.builtin .append, #[x, y], #[t, t]⟩ → (execOp a.eval o).run P w = .ok nx w') ∧ K d s' ∧
                    SRel w0 F0 s' β' w' ∧ Ext s.nx w0 nX s β w s' β' w' ∧ s.nx ≤ s'.nx ∧ RV w' (Fr w0 F0 s' β') β' d v ∧ Oth β (etgt ρ (.call ⟨.builtin .append, #[x, y], #[t, t]⟩)) w w' ∧ Nb s s' β β' (etgt ρ (.call ⟨.builtin .append, #[x, y], #[t, t]⟩)) w := by
                intro vs hpv w' cur' hbel hoth hnew hcs hkeep hput hr
                obtain ⟨k1, k2⟩ := hs.retake id ob hob b' c' g1 s.nx (s.nx + 1) hs.fresh.1 hs.fresh.2 (by omega) (by omega) w' cur' ⟨e, sz, ob.cells.take (n * sz) ++ news⟩ (by simp [he2]) hbel hoth (by rw [hnew]; exact congrArg some (blk_cells hmt _).symm) (by rw [hcs]; exact g4)
                  (by rw [hcs, g4, he2]; simp only [List.length_append, List.length_take, hnl]; rw [Nat.min_eq_left hle, ← Nat.add_mul]; exact Nat.mul_le_mul_right _ hroom) (fun j d hj => by
                    rw [List.getElem?_append] at hj
                    have hll : (ob.cells.take (n * sz)).length = n * sz := by simp; omega
                    rw [hll] at hj
                    split at hj
                    · rename_i hjl
                      have hj2 : ob.cells[j]? = some d := by rw [List.getElem?_take, if_pos hjl] at hj; exact hj
                      obtain ⟨q, hq, hr2⟩ := g7 j d hj2
                      exact ⟨q, by rw [hkeep j hjl]; exact hq, hr2⟩
                    · rename_i hjl
                      have hjn : j - n * sz < vs.length := by rw [← hpv.1]; exact (List.getElem?_eq_some_iff.1 hj).1
                      refine ⟨vs[j - n * sz], ?_, hpv.2 _ d _ hj (List.getElem?_eq_getElem hjn)⟩
                      have := hput (j - n * sz) _ (List.getElem?_eq_getElem hjn)
                      rwa [show n * sz + (j - n * sz) = j by omega] at this)
                exact ⟨_, .slice (some ⟨b', 0, none⟩) (n + m) c', w', _, _, _, .inl rfl, hrun _ _ hr, hK, k1, k2 _, Nat.le_succ _, .arr _ _ b' c' (by simp) hroom, fun b2 _ h2 => hoth b2 (fun e => h2 id c' (by simp [etgt, hdx]) (by rw [e]; exact g1)), fun i b2 c2 hi hb2 _ => by
                  by_cases e : i = s.nx
                  · subst e
                    simp only [upd_same, Option.some.injEq, Prod.mk.injEq] at hb2
                    exact .inr ⟨id, c', by simp [etgt, hdx], by simp [hob], by rw [← hb2.1]; exact g1⟩
                  · exact .inl ⟨hdso i (by simpa only [upd_ne _ _ _ e] using hi), by rw [← hb2, upd_ne _ _ _ e]⟩⟩
              rcases hsv with ⟨he, hm0⟩ | ⟨ad, cc, vs, he, hpv, hv1, hvc⟩
              · subst hm0
                have hn0 : news = [] := List.eq_nil_of_length_eq_zero (by simpa using hnl)
                subst hn0
                refine place [] .nil w cur (.refl _ _) (fun _ _ => rfl) (by rw [g3, he1]) rfl (fun _ _ => rfl) (fun j u h => by simp at h) (fun ty => ?_)
                rw [hxe, he]
                have hr0 : n ≤ c' := by omega
                simp [Builtin.append_, run_underlying t1, sizeOf, typeInfo, t2, Builtin.lenOf, Builtin.firstCells, hr0, storeCells]
              · have hvl : vs.length = m * sz := by rw [← hpv.1]; exact hnl
                have hfit : n * i.size + vs.length ≤ cur.size := by rw [hvl, t3, g4, he2, ← Nat.add_mul]; exact Nat.mul_le_mul_right _ hroom
                have hr := fun ty => run_append_room (P := P) w t ty e i t1 t2 b' n c' cur (by rw [g3, he1]) ad m cc vs (by rw [hvl, t3]) hvc hv1 hroom hfit
                have hl1 : n * sz + vs.length ≤ cur.toList.length := by rw [← t3]; simpa using hfit
                refine place vs hpv _ (cur.toList.take (n * sz) ++ vs ++ cur.toList.drop (n * sz + vs.length)).toArray (below_setRow w b' _) (fun k hk => setRow_other w b' k _ hk) (by rw [setRow_heap w b' cur _ ob.elem _ g3, he1]) ?_ (fun j hj => ?_) (fun j u hu => ?_) (fun ty => by rw [hxe, he, hr ty, t3])
                · simp at hl1 ⊢; omega
                · simp only [List.getElem?_toArray]
                  rw [List.append_assoc, List.getElem?_append_left (by omega), List.getElem?_take, if_pos hj]; simp
                · have hju := (List.getElem?_eq_some_iff.1 hu).1
                  simp only [List.getElem?_toArray]
                  rw [List.append_assoc, List.getElem?_append_right (by omega), hpol, List.getElem?_append_left (by omega)]
                  rw [show n * sz + j - n * sz = j by omega]; exact hu
            · -- a new block
              rcases hsv with ⟨_, hm0⟩ | ⟨ad, cc, vs, he, hpv, hv1, hvc⟩
              · omega
              have hpo1 : Pw w (Fr w0 F0 ⟨upd s.ob id none, s.nx⟩ β) β (ob.cells.take (n * sz)) (cur.toList.take (n * sz)) := ⟨hpo.1, fun j d u h1 h2 => RV.ext hs (Nat.le_refl _) (hdrop.2 s.nx) (hpo.2 j d u h1 h2)⟩
              have hpv1 : Pw w (Fr w0 F0 ⟨upd s.ob id none, s.nx⟩ β) β news vs := ⟨hpv.1, fun j d u h1 h2 => RV.ext hs (Nat.le_refl _) (hdrop.2 s.nx) (hpv.2 j d u h1 h2)⟩
              refine grown _ hdrop.1 (hdrop.2 _) rfl hdso c' n _ _ (by omega) hml (by simp; omega) hpo1 ⟨vs, hpv1, fun ty => ?_⟩ hK
              have := run_append_grow (P := P) w t ty e i zv t1 t2 t5 ⟨b', 0, none⟩ n c' (cur.toList.take (n * sz)) (by rw [hpol, t3]) (fun j u hu => by
                  rw [List.getElem?_take] at hu
                  split at hu
                  · rw [Addr.add_lit, Nat.zero_add]; simpa [World.cell?, g3] using hu
                  · cases hu) ad m cc vs (by rw [← hpv.1, hnl, t3]) hvc (by omega) (by simp only [maxLen] at hml; omega) (by rw [t4]; exact growslice_fits (by omega) hb)
              rw [hxe, he, this]
          · simp only [Nat.zero_add] at hb hml
            exact hnil hxe _ hdrop.1 (hdrop.2 _) rfl hdso _ (by simp) hb hml hK
        · exact h.elim
      · exact h.elim
  · exact h.elim
theorem cells_zero (z : Array Value) (n : Nat) (hz : 0 < z.size) : (Builtin.zeroCells z n).toList = (List.replicate n z.toList).flatten := by
  unfold Builtin.zeroCells
  exact zeros_flat z n z.size rfl hz
theorem pw_zeros {w : World} {F : Nat → Prop} {β : Beta} {z : Array Value} (hall : z.toList.all Value.oneCell' = true) (n : Nat) : Pw w F β (List.replicate n (z.toList.map DV.v)).flatten (List.replicate n z.toList).flatten := by
  have e1 : (List.replicate n (z.toList.map DV.v)).flatten = ((List.replicate n z.toList).flatten).map .v := by
    rw [List.map_flatten, List.map_replicate]
  refine ⟨by simp [List.length_flatten], fun i d y h1 h2 => ?_⟩
  have hmem : y ∈ (List.replicate n z.toList).flatten := List.mem_of_getElem? h2
  rw [e1, List.getElem?_map, h2] at h1
  simp only [Option.map_some, Option.some.injEq] at h1
  subst h1
  obtain ⟨l, hl1, hl2⟩ := List.mem_flatten.1 hmem
  rw [List.mem_replicate] at hl1
  rw [hl1.2] at hl2
  exact .data (.v _ (List.all_eq_true.1 hall y hl2))
theorem esem_clear [Inhabited GlobS] {x : Operand} {t : TypeId} (h : evg true (ρ x) fun dx => dclear P s t dx K) : ESem P s (.call ⟨.builtin .clear, #[x], #[t]⟩) ρ K := by
  obtain ⟨h, hx⟩ := evg_sound2 _ h
  generalize hdx : str0 (ρ x) = dx at h hx
  unfold dclear at h
  split at h
  case h_2 => exact h.elim
  rename_i e sz bytes z hel
  obtain ⟨i, zv, t1, t2, t3, t4, t5, t6, t7, t8, t9⟩ := elemI_some hel
  intro w0 F0 β w a hs hρ
  have hvx := hx rfl _ _ _ _ (hρ x)
  have hrun : ∀ (v : Value) (w' : World), (∀ ty, (Builtin.clear_ #[t] ty #[a.eval x]).run P w = .ok v w') → ∀ (o : Oper), o.op = .call ⟨.builtin .clear, #[x], #[t]⟩ → (execOp a.eval o).run P w = .ok (.value v) w' := fun v w' hr o ho => by
    simp only [execOp, ho, resolve, invoke, builtin, Sem.run_bind, Sem.run_pure, Result.andThen_ok, List.map_toArray, List.map_cons, List.map_nil, hr]
  have main : ∀ (id off len : Nat) (ob : DObj) (ad : Option Addr) (n : Nat), s.ob id = some ob → Nat.beq ob.elem MAPT = false → etgt ρ (.call ⟨.builtin .clear, #[x], #[t]⟩) = some id → a.eval x = .slice ad len n →
      (0 < len → ∃ b c, β id = some (some (b, c)) ∧ ad = some ⟨b, off, none⟩) → ob.sz = sz → off + len * sz ≤ ob.cells.length →
      K (.tup []) ⟨upd s.ob id (some { ob with cells := ob.cells.take off ++ (List.replicate len z).flatten ++ ob.cells.drop (off + len * sz) }), s.nx⟩ →
      ∃ nx v w' d s' β', (nx = .value v ∨ (nx = .skip ∧ v = undef)) ∧ (∀ (o : Oper), o.op = .call ⟨.builtin .clear, #[x], #[t]⟩ → (execOp a.eval o).run P w = .ok nx w') ∧ K d s' ∧
        SRel w0 F0 s' β' w' ∧ Ext s.nx w0 nX s β w s' β' w' ∧ s.nx ≤ s'.nx ∧ RV w' (Fr w0 F0 s' β') β' d v ∧ Oth β (etgt ρ (.call ⟨.builtin .clear, #[x], #[t]⟩)) w w' ∧ Nb s s' β β' (etgt ρ (.call ⟨.builtin .clear, #[x], #[t]⟩)) w := by
    intro id off len ob ad n hob hm htg he q1 hsz hle hK
    by_cases h0 : 0 < len
    · obtain ⟨b, c, hb, rfl⟩ := q1 h0
      rcases hs.obs id ob hob with g | ⟨b', c', cur, g1, g2, g3, g4, g5, g6, g7⟩
      · rw [g.1] at hb; cases hb
      rw [g1] at hb
      simp only [Option.some.injEq, Prod.mk.injEq] at hb
      obtain ⟨rfl, rfl⟩ := hb
      rw [blk_cells hm] at g3
      have hzl : (List.replicate len zv.cells.toList).flatten.length = len * sz := by simp [List.length_flatten, t8]
      have hpz : Pw w (Fr w0 F0 s β) β (List.replicate len z).flatten (List.replicate len zv.cells.toList).flatten := by rw [t6]; exact pw_zeros t7 len
      have hcl : ob.cells.length ≤ cur.toList.length := by simpa using g6
      have hone : ∀ v ∈ (List.replicate len zv.cells.toList).flatten, v.oneCell' = true := fun v hv => by
        obtain ⟨l, hl1, hl2⟩ := List.mem_flatten.1 hv
        rw [List.mem_replicate] at hl1
        rw [hl1.2] at hl2
        exact List.all_eq_true.1 t7 v hl2
      have hst := run_storeCells_at P b' off ob.elem (List.replicate len zv.cells.toList).flatten 0 cur w g3 (by rw [hzl]; simp at hcl; omega) hone
      simp only [Nat.add_zero] at hst
      rw [hzl] at hst
      have hpl : (cur.toList.take off).length = off := by simp only [List.length_take]; omega
      have hpl2 : (ob.cells.take off).length = off := by simp only [List.length_take]; omega
      have hsz2 : (cur.toList.take off ++ (List.replicate len zv.cells.toList).flatten ++ cur.toList.drop (off + len * sz)).toArray.size = cur.size := by
        simp only [List.size_toArray, List.length_append, hpl, hzl, List.length_drop]
        have : cur.toList.length = cur.size := by simp
        omega
      obtain ⟨k1, k2⟩ := hs.rewrite id ob hob b' c' g1 (w.setRow b' (cur.toList.take off ++ (List.replicate len zv.cells.toList).flatten ++ cur.toList.drop (off + len * sz)).toArray) _ (ob.cells.take off ++ (List.replicate len z).flatten ++ ob.cells.drop (off + len * sz))
        (below_setRow w b' _) (fun k hk => setRow_other w b' k _ hk) (by rw [blk_cells hm]; exact setRow_heap w b' cur _ _ _ g3) (by rw [hsz2]; exact g4) (by
          rw [hsz2]; simp only [List.length_append, hpl2, List.length_drop, hpz.1, hzl]
          have : cur.toList.length = cur.size := by simp
          omega) (fun j d hj => by
          have hzl' : (List.replicate len z).flatten.length = len * sz := by rw [hpz.1, hzl]
          simp only [List.getElem?_toArray]
          rw [List.getElem?_append] at hj ⊢
          simp only [List.length_append, hpl, hpl2, hzl, hzl'] at hj ⊢
          split at hj
          · rename_i hjA
            rw [if_pos hjA]
            rw [List.getElem?_append] at hj ⊢
            simp only [hpl, hpl2] at hj ⊢
            split at hj
            · rename_i hjl
              rw [if_pos hjl]
              rw [List.getElem?_take, if_pos hjl] at hj ⊢
              obtain ⟨q, hq, hr2⟩ := g7 j d hj
              exact ⟨q, by simpa using hq, hr2⟩
            · rename_i hjl
              rw [if_neg hjl]
              have hjn : j - off < (List.replicate len zv.cells.toList).flatten.length := by rw [hzl]; omega
              exact ⟨_, List.getElem?_eq_getElem hjn, hpz.2 _ d _ hj (List.getElem?_eq_getElem hjn)⟩
          · rename_i hjA
            rw [if_neg hjA]
            rw [List.getElem?_drop, show off + len * sz + (j - (off + len * sz)) = j by omega] at hj ⊢
            obtain ⟨q, hq, hr2⟩ := g7 j d hj
            exact ⟨q, by simpa using hq, hr2⟩)
      refine ⟨_, .tuple #[], _, _, _, β, .inl rfl, hrun _ _ (fun ty => ?_), hK, k1, k2 _, Nat.le_refl _, .tup [] [] rfl (fun i d x h => by simp at h), fun b2 _ h2 => setRow_other w b' b2 _ (fun e => h2 id c' htg (by rw [e]; exact g1)), fun i b2 c2 hi hb2 _ => .inl ⟨by
        by_cases e : i = id
        · subst e; simp [hob]
        · simpa only [upd_ne _ _ _ e] using hi, hb2⟩⟩
      obtain ⟨k, rfl⟩ : ∃ k, len = k + 1 := ⟨len - 1, by omega⟩
      rw [he]
      have hzc := cells_zero zv.cells (k + 1) (by omega)
      simp [Builtin.clear_, run_underlying t1, zeroValue, typeInfo, t2, t5, hzc, hst]
    · have hl0 : len = 0 := by omega
      subst hl0
      have hsame : (⟨upd s.ob id (some { ob with cells := ob.cells.take off ++ (List.replicate 0 z).flatten ++ ob.cells.drop (off + 0 * sz) }), s.nx⟩ : Sto) = s := by
        have h1 : ({ ob with cells := ob.cells.take off ++ (List.replicate 0 z).flatten ++ ob.cells.drop (off + 0 * sz) } : DObj) = ob := by simp
        rw [h1]
        have h2 : upd s.ob id (some ob) = s.ob := by
          funext k
          by_cases e : k = id
          · subst e; simp [hob]
          · rw [upd_ne _ _ _ e]
        rw [h2]
      rw [hsame] at hK
      refine ⟨_, .tuple #[], w, _, s, β, .inl rfl, hrun _ _ (fun ty => ?_), hK, hs, .refl, Nat.le_refl _, .tup [] [] rfl (fun i d x h => by simp at h), fun _ _ _ => rfl, fun i b2 c2 hi hb2 _ => .inl ⟨hi, hb2⟩⟩
      rw [he]
      cases ad <;> simp [Builtin.clear_, run_underlying t1]
  split at h
  · rename_i id off len
    split at h
    · rename_i ob hob
      obtain ⟨hm, ⟨h1, h2⟩, hK⟩ := cellsO_is h
      obtain ⟨ad, n, he, q1, q2, q3⟩ := rv_sub hvx
      exact main id off len ob ad n hob hm (by simp [etgt, hdx]) he q1 h1 h2 hK
    · exact h.elim
  · rename_i id len
    split at h
    · rename_i ob hob
      obtain ⟨hm, ⟨h1, h2⟩, hK⟩ := cellsO_is h
      have hK' : K (.tup []) ⟨upd s.ob id (some { ob with cells := ob.cells.take 0 ++ (List.replicate len z).flatten ++ ob.cells.drop (0 + len * sz) }), s.nx⟩ := by simpa using hK
      rcases rv_arr hvx with ⟨b, c, hb, hlc, he⟩ | ⟨hb, rfl, he⟩
      · exact main id 0 len ob _ c hob hm (by simp [etgt, hdx]) he (fun _ => ⟨b, c, hb, rfl⟩) h1 (by omega) hK'
      · exact main id 0 0 ob _ 0 hob hm (by simp [etgt, hdx]) he (fun h => absurd h (by omega)) h1 (by omega) hK'
    · exact h.elim
  · exact h.elim
theorem esem_makeSlice [Inhabited GlobS] {t : TypeId} {x y : Operand} (h : de P s ρ (.makeSlice t x y) K) : ESem P s (.makeSlice t x y) ρ K := by
  simp only [de] at h
  obtain ⟨dl, h', hl⟩ := evg_sound _ h
  clear h
  obtain ⟨dc, h, hc⟩ := evg_sound _ h'
  clear h'
  split at h
  · rename_i e sz bytes z hel
    obtain ⟨hm, h2⟩ := cellsO_is h
    clear h
    have h := h2
    clear h2
    split at h
    · rename_i k1 l k2 c
      obtain ⟨⟨h0, hlc, hb, hmx⟩, h⟩ := h
      obtain ⟨i, zv, g1, g2, g3, g4, g5, g6, g7, g8, g9⟩ := elemI_some hel
      intro w0 F0 β w a hs hρ
      have hvl := rv_v (hl rfl _ _ _ _ (hρ x))
      have hvc := rv_v (hc rfl _ _ _ _ (hρ y))
      have hz := zeros_flat zv.cells c.toNat sz g8 g9
      have hpz : Pw w (Fr w0 F0 s β) β (List.replicate c.toNat z).flatten (madeCells zv.cells (c.toNat * sz)).toList := by
        have hz' : (madeCells zv.cells (c.toNat * sz)).toList = (List.replicate c.toNat zv.cells.toList).flatten := by
          unfold madeCells
          rw [g8]; exact hz
        rw [hz', g6]
        exact pw_zeros g7 _
      have hsz : (madeCells zv.cells (c.toNat * sz)).size = c.toNat * sz := size_madeCells _ _
      obtain ⟨β', hb', g1', g2', gn⟩ := hs.newOb ⟨e, sz, (List.replicate c.toNat z).flatten⟩ hm (madeCells zv.cells (c.toNat * sz)) c.toNat hsz (by simp only [maxLen]; omega) (by have := hpz.1; simp only [Array.length_toList] at this; show (List.replicate c.toNat z).flatten.length ≤ _; omega) (pw_cur (by simpa using hpz))
      refine ⟨_, .slice (some ⟨w.heap.size, 0, none⟩) l.toNat c.toNat, _, _, _, β', .inl rfl, fun o ho => ?_, h, g1', g2' _, by simp [Dl.newOb], .arr _ _ _ _ hb' (by omega), .alloc _ _, gn _⟩
      have hr := run_make (P := P) w t e i zv g1 g2 g5 k1 k2 l c h0 hlc (by rw [g4, Int.mul_comm]; exact hb) hmx
      rw [g3] at hr
      simp only [execOp, ho, hvl, hvc, Sem.run_bind, hr]
      rfl
    · exact h.elim
  · exact h.elim
theorem entsOf_flat : ∀ es : List MapEntry, entsOf (es.flatMap fun e => [e.key, e.val, .int .i64 e.born]) = es
  | [] => rfl
  | e :: es => by
    show MapEntry.mk e.key e.val (Int.toNat (e.born : Int)) :: entsOf (es.flatMap fun e => [e.key, e.val, .int .i64 e.born]) = _
    rw [entsOf_flat es, Int.toNat_natCast]
theorem blk_ents (es : Array MapEntry) (clk : Nat) : blk #[.agg (#[.int .i64 clk] ++ (es.toList.flatMap fun e => [e.key, e.val, .int .i64 e.born]).toArray)] MAPT = .map es clk := by
  show mapOf (#[Value.int .i64 clk] ++ (es.toList.flatMap fun e => [e.key, e.val, .int .i64 e.born]).toArray).toList = _
  rw [Array.toList_append, List.toList_toArray]
  show Obj.map (entsOf (es.toList.flatMap fun e => [e.key, e.val, .int .i64 e.born])).toArray (Int.toNat (clk : Int)) = _
  rw [entsOf_flat, Int.toNat_natCast, Array.toArray_toList]
theorem esem_makeMap [Inhabited GlobS] {t : TypeId} (h : de P s ρ (.makeMap t none) K) : ESem P s (.makeMap t none) ρ K := by
  simp only [de] at h
  intro w0 F0 β w a hs hρ
  obtain ⟨h1, h2⟩ := hs.fresh
  obtain ⟨k1, k2⟩ := hs.alloc s.nx h1 h2 (s.nx + 1) (by omega) (by omega) ⟨MAPT, 1, [.agg [.dead]]⟩ #[.agg (#[.int .i64 (0 : Nat)] ++ ((#[] : Array MapEntry).toList.flatMap fun e => [e.key, e.val, .int .i64 e.born]).toArray)] 1 rfl (by simp [maxLen]) (Nat.le_refl _) (fun j d hj => by
    match j, hj with
    | 0, hj =>
      cases hj
      exact ⟨_, rfl, .agg [.dead] [.int .i64 (0 : Nat)] rfl fun i d x e1 e2 => by
        match i, e1 with
        | 0, e1 => cases e1; exact .dead _⟩)
  rw [blk_ents #[] 0] at k1 k2
  refine ⟨_, .map (some w.heap.size), _, _, _, _, .inl rfl, fun o ho => ?_, h, k1, k2 _, by simp [Dl.newOb], .mo _ _ 1 (by simp), .alloc _ _, .new s.nx (fun i e hi => ?_) (fun i e => upd_ne _ _ _ e) (fun b c' hb => ?_)⟩
  · simp only [execOp, ho]
    rfl
  · simp only [Dl.newOb, upd_ne _ _ _ e] at hi; exact hi
  · simp at hb; omega
theorem de_sound [Inhabited GlobS] (op : Op) (h : de P s ρ op K) : ESem P s op ρ K := by
  unfold de at h
  split at h
  · exact esem_alloc (by unfold de; exact h)
  · exact esem_box (by unfold de; exact h)
  · exact esem_buildSlice (by unfold de; exact h)
  · exact esem_makeSlice (by unfold de; exact h)
  · exact esem_store (by unfold de; exact h)
  · rename_i c
    obtain ⟨callee, args, ts⟩ := c
    split at h
    · rename_i x y t t' h1 h2 h3
      simp only at h1 h2 h3
      cases e : Nat.beq t t' with
      | true =>
        rw [e] at h
        obtain ⟨rfl, h⟩ := h
        rw [h1, arr2 h2, arr2 h3]
        exact esem_append h
      | false => rw [e] at h; exact h
    · rename_i x t h1 h2 h3
      simp only at h1 h2 h3
      rw [h1, arr1 h2, arr1 h3]
      exact esem_clear h
    · exact h
  · exact esem_makeMap (by unfold de; exact h)
  · exact h
  · exact h.elim
end
end Go.Dl


