/-
  The data-level logic, part 5: composite literals, the builtins that only read; all quiet operations together ('dq_sound').
-/
import Derived.Test.YtlchjjchgebfiaaGreatDoorDp4

namespace Go.Dl
open Go Go.RowKit
def Pw (w : World) (F : Nat → Prop) (β : Beta) (ds : List DV) (xs : List Value) : Prop :=
  ds.length = xs.length ∧ ∀ (i : Nat) d y, ds[i]? = some d → xs[i]? = some y → RV w F β d y
theorem Pw.nil {w : World} {F : Nat → Prop} {β : Beta} : Pw w F β [] [] := ⟨rfl, fun i d y h => by simp at h⟩
theorem Pw.cons {w : World} {F : Nat → Prop} {β : Beta} {d : DV} {x : Value} {ds : List DV} {xs : List Value} (h : RV w F β d x) (k : Pw w F β ds xs) : Pw w F β (d :: ds) (x :: xs) :=
  ⟨by simp [k.1], fun i d y h1 h2 => by
    cases i with
    | zero => simp at h1 h2; subst h1 h2; exact h
    | succ i => exact k.2 i d y (by simpa using h1) (by simpa using h2)⟩
theorem Pw.tail {w : World} {F : Nat → Prop} {β : Beta} {d : DV} {x : Value} {ds : List DV} {xs : List Value} (k : Pw w F β (d :: ds) (x :: xs)) : RV w F β d x ∧ Pw w F β ds xs :=
  ⟨k.2 0 d x rfl rfl, by simpa using k.1, fun i d y h1 h2 => k.2 (i + 1) d y (by simpa using h1) (by simpa using h2)⟩
theorem Pw.set {w : World} {F : Nat → Prop} {β : Beta} {d : DV} {x : Value} {ds : List DV} {xs : List Value} (k : Pw w F β ds xs) (h : RV w F β d x) (off : Nat) : Pw w F β (ds.set off d) (xs.set off x) := by
  refine ⟨by simp [k.1], fun i d' y h1 h2 => ?_⟩
  have hi : i < ds.length := by have := (List.getElem?_eq_some_iff.1 h1).1; simpa using this
  by_cases e : off = i
  · subst e
    rw [List.getElem?_set_self hi] at h1
    rw [List.getElem?_set_self (by rw [← k.1]; exact hi)] at h2
    cases h1; cases h2; exact h
  · rw [List.getElem?_set_ne e] at h1 h2
    exact k.2 i d' y h1 h2
def setManyV : List Value → Nat → List Value → List Value
  | cells, _, [] => cells
  | cells, off, d :: ds => setManyV (cells.set off d) (off + 1) ds
theorem length_setMany (ds : List DV) : ∀ cells off, (setMany cells off ds).length = cells.length := by
  induction ds with
  | nil => intro _ _; rfl
  | cons d ds ih => intro cells off; simp [setMany, ih]
theorem length_setManyV (ds : List Value) : ∀ cells off, (setManyV cells off ds).length = cells.length := by
  induction ds with
  | nil => intro _ _; rfl
  | cons d ds ih => intro cells off; simp [setManyV, ih]
theorem Pw.setMany {w : World} {F : Nat → Prop} {β : Beta} (ds : List DV) : ∀ (vs : List Value) (cs : List DV) (xs : List Value) (off : Nat), Pw w F β cs xs → Pw w F β ds vs →
    Pw w F β (setMany cs off ds) (setManyV xs off vs) := by
  induction ds with
  | nil =>
    intro vs cs xs off h k
    have : vs = [] := by have := k.1; simp at this; exact List.length_eq_zero_iff.1 this.symm
    subst this; exact h
  | cons d ds ih =>
    intro vs cs xs off h k
    cases vs with
    | nil => have := k.1; simp at this
    | cons v vs =>
      obtain ⟨k1, k2⟩ := k.tail
      exact ih vs _ _ _ (h.set k1 off) k2
theorem foldl_setManyV (off : Nat) (vs : List Value) : ∀ (k : Nat) (cells : Array Value),
    (vs.zipIdx k).foldl (fun cs (p : Value × Nat) => cs.setIfInBounds (off + p.2) p.1) cells = (setManyV cells.toList (off + k) vs).toArray := by
  induction vs with
  | nil => intro k cells; simp [setManyV]
  | cons v vs ih =>
    intro k cells
    simp only [List.zipIdx_cons, List.foldl_cons, setManyV, ih]
    congr 2
    simp
theorem cells_pw {w : World} {F : Nat → Prop} {β : Beta} {d : DV} {x : Value} {ds : List DV} (h : RV w F β d x) (hd : cellsOfDV d = some ds) : Pw w F β ds x.cells.toList := by
  have one : ∀ (y : Value), RV w F β d y → y.cells = #[y] → ds = [d] → Pw w F β ds y.cells.toList := fun y hy hc he => by
    rw [hc, he]; exact Pw.nil.cons hy
  cases h with
  | data h =>
    have ho := h.one
    have hc : x.cells = #[x] := by cases x <;> first | rfl | simp [Value.oneCell'] at ho
    have he : ds = [d] := by
      cases h <;> (simp [cellsOfDV] at hd; exact hd.symm)
    exact one x (.data h) hc he
  | agg cs xs hl h => simp [cellsOfDV] at hd; subst hd; exact ⟨by simpa [Value.cells] using hl, by simpa [Value.cells] using h⟩
  | dead => simp [cellsOfDV] at hd
  | whn => simp [cellsOfDV] at hd
  | lref _ _ _ _ b o cap h hi => exact one _ (.lref _ _ _ _ b o cap h hi) rfl (by simpa [cellsOfDV] using hd.symm)
  | ref _ _ b c h => exact one _ (.ref _ _ b c h) rfl (by simpa [cellsOfDV] using hd.symm)
  | arr _ _ b c h hl => exact one _ (.arr _ _ b c h hl) rfl (by simpa [cellsOfDV] using hd.symm)
  | arrNil _ h => exact one _ (.arrNil _ h) rfl (by simpa [cellsOfDV] using hd.symm)
  | sub _ _ _ a n h hn hl => exact one _ (.sub _ _ _ a n h hn hl) rfl (by simpa [cellsOfDV] using hd.symm)
  | tup _ xs hl h => exact one _ (.tup _ xs hl h) rfl (by simpa [cellsOfDV] using hd.symm)
  | clo _ _ _ xs ys hl hl' h h' => exact one _ (.clo _ _ _ xs ys hl hl' h h') rfl (by simpa [cellsOfDV] using hd.symm)
  | ifc _ _ _ h => exact one _ (.ifc _ _ _ h) rfl (by simpa [cellsOfDV] using hd.symm)
  | mp es b clk h hF => exact one _ (.mp es b clk h hF) rfl (by simpa [cellsOfDV] using hd.symm)
  | mo _ b c h => exact one _ (.mo _ b c h) rfl (by simpa [cellsOfDV] using hd.symm)
section
variable {P : Program} {s : Sto} {ρ : Operand → DV} {g : Bool}
theorem dfill_sound {place : Nat → Option (Nat × Nat)} {K : List DV → Prop} (parts : List (Nat × Operand)) : ∀ (cells : List DV), dfill ρ g place parts cells K →
    ∃ cs, K cs ∧ (g = true → ∀ w F β (ev : Operand → Value), (∀ x, RV w F β (ρ x) (ev x)) → ∀ xs : List Value, Pw w F β cells xs →
      ∃ ys : List Value, Pw w F β cs ys ∧ Instr.fill place xs.toArray (parts.map fun (i, x) => (i, ev x)) = some ys.toArray) := by
  induction parts with
  | nil => intro cells h; exact ⟨cells, h, fun _ w F β ev _ xs hx => ⟨xs, hx, rfl⟩⟩
  | cons p parts ih =>
    obtain ⟨i, x⟩ := p
    intro cells h
    have h : (match place i with
      | none => False
      | some pl => evg g (ρ x) fun d => (match cellsOfDV d with
        | some ds => (g = true → ds.length = pl.2 ∧ pl.1 + pl.2 ≤ cells.length) ∧ forceL (setMany cells pl.1 ds) fun cells => dfill ρ g place parts cells K
        | none => False)) := h
    split at h
    · exact h.elim
    · rename_i pl hp
      obtain ⟨off, size⟩ := pl
      simp only at h
      obtain ⟨d, h, hd⟩ := evg_sound _ h
      split at h
      · rename_i ds hds
        obtain ⟨h1, h2⟩ := h
        rw [forceL_eq] at h2
        obtain ⟨cs, k1, k2⟩ := ih _ h2
        refine ⟨cs, k1, fun hg w F β ev hρ xs hx => ?_⟩
        obtain ⟨hsz, hle⟩ := h1 hg
        have hpw := cells_pw (hd hg _ _ _ _ (hρ x)) hds
        obtain ⟨ys, g1, g2⟩ := k2 hg w F β ev hρ _ (hx.setMany ds (ev x).cells.toList cells xs off hpw)
        refine ⟨ys, g1, ?_⟩
        have hsz' : (ev x).cells.size = size := by have := hpw.1; simp at this; omega
        have hcs : xs.toArray.size = cells.length := by simpa using hx.1.symm
        have hcs' : xs.length = cells.length := hx.1.symm
        simp only [List.map_cons, Instr.fill, hp]
        rw [if_neg (by simp [hsz']; omega)]
        rw [← g2]
        congr 1
        rw [← Array.foldl_toList, Array.toList_zipIdx]
        have := foldl_setManyV off (ev x).cells.toList 0 xs.toArray
        simpa using this
      · exact h.elim
theorem run_sizeOf {t : TypeId} {i : TypeInfo} (h : P.info? t = some i) (w : World) : (sizeOf t).run P w = .ok i.size w := by
  simp [sizeOf, typeInfo, h]
theorem run_places {fs : Array Field} (h : fs.toList.all (fun f => (P.info? f.type).isSome) = true) (w : World) :
    ((fs.mapM fun f => do pure (f.offset, ← sizeOf f.type) : Sem (Array (Nat × Nat)))).run P w = .ok (fs.map fun f => (f.offset, P.cellsOf f.type)) w := by
  rw [Array.mapM_eq_mapM_toList]
  obtain ⟨l⟩ := fs
  simp only at h ⊢
  have key : ((l.mapM fun f => do pure (f.offset, ← sizeOf f.type) : Sem (List (Nat × Nat)))).run P w = .ok (l.map fun f => (f.offset, P.cellsOf f.type)) w := by
    induction l with
    | nil => rfl
    | cons f l ih =>
      simp only [List.all_cons, Bool.and_eq_true] at h
      obtain ⟨i, hi⟩ := Option.isSome_iff_exists.1 h.1
      simp only [List.mapM_cons, Sem.run_bind, run_sizeOf hi, Result.andThen_ok, Sem.run_pure, ih h.2, List.map_cons]
      simp [Program.cellsOf, hi]
  simp only [Sem.run_map, key, Result.andThen_ok]
  simp
theorem sound_build {t : TypeId} {parts : Array (Nat × Operand)} {K : DV → Prop} (h : dq P s ρ g (.build t parts) K) : ∃ d, K d ∧ (g = true → QSem P s (.build t parts) ρ d) := by
  simp only [dq] at h
  split at h
  · rename_i z pl _ hz hpl
    obtain ⟨cs, k1, k2⟩ := dfill_sound _ _ h
    rw [forceL_eq] at k1
    refine ⟨_, k1, fun hg w0 F0 β w a hs hρ => ?_⟩
    unfold zeroDV at hz
    split at hz
    · rename_i zv hzv
      split at hz
      · rename_i hall
        simp only [Option.some.injEq] at hz
        subst hz
        obtain ⟨inf, hi, hzi⟩ := Option.bind_eq_some_iff.1 hzv
        obtain ⟨ys, g1, g2⟩ := k2 hg w F0 β a.eval hρ zv.cells.toList ⟨by simp, fun i d y h1 h2 => by
          simp only [List.getElem?_map, h2, Option.map_some, Option.some.injEq] at h1
          subst h1
          exact .data (.v _ (List.all_eq_true.1 hall y (List.mem_of_getElem? h2)))⟩
        refine ⟨.agg ys.toArray, .agg _ _ g1.1 g1.2, fun o w' ho _ => ?_⟩
        unfold fldPlaces at hpl
        split at hpl
        · rename_i fs hfs
          split at hpl
          · rename_i hall'
            simp only [Option.some.injEq] at hpl
            subst hpl
            have e1 : (fun (i : Nat) => (fs.toList.map fun f => (f.offset, P.cellsOf f.type))[i]?) = fun (i : Nat) => (fs.map fun f => (f.offset, P.cellsOf f.type))[i]? := by
              funext i; rw [← Array.toList_map, Array.getElem?_toList]
            rw [e1, Array.toArray_toList] at g2
            have e2 : (parts.map fun x => (x.1, a.eval x.2)).toList = parts.toList.map fun x => (x.1, a.eval x.2) := by simp
            simp only [execOp, ho, Instr.build, zeroValue, typeInfo, Sem.run_bind, run_program, Result.andThen_ok, hi, Sem.run_pure, hzi, run_underlying hfs]
            rw [run_places hall']
            simp only [Result.andThen_ok]
            rw [e2]
            rw [g2]
            rfl
          · cases hpl
        · cases hpl
      · cases hz
    · cases hz
  · rename_i z n sz hz _ har
    rw [forceN_eq] at h
    obtain ⟨cs, k1, k2⟩ := dfill_sound _ _ h
    rw [forceL_eq] at k1
    refine ⟨_, k1, fun hg w0 F0 β w a hs hρ => ?_⟩
    unfold zeroDV at hz
    split at hz
    · rename_i zv hzv
      split at hz
      · rename_i hall
        simp only [Option.some.injEq] at hz
        subst hz
        obtain ⟨inf, hi, hzi⟩ := Option.bind_eq_some_iff.1 hzv
        obtain ⟨ys, g1, g2⟩ := k2 hg w F0 β a.eval hρ zv.cells.toList ⟨by simp, fun i d y h1 h2 => by
          simp only [List.getElem?_map, h2, Option.map_some, Option.some.injEq] at h1
          subst h1
          exact .data (.v _ (List.all_eq_true.1 hall y (List.mem_of_getElem? h2)))⟩
        refine ⟨.agg ys.toArray, .agg _ _ g1.1 g1.2, fun o w' ho _ => ?_⟩
        obtain ⟨e, inf2, q2, q3, q4⟩ := arElem_some har
        rw [Array.toArray_toList] at g2
        have e2 : (parts.map fun x => (x.1, a.eval x.2)).toList = parts.toList.map fun x => (x.1, a.eval x.2) := by simp
        simp only [execOp, ho, Instr.build, zeroValue, typeInfo, Sem.run_bind, run_program, Result.andThen_ok, hi, Sem.run_pure, hzi, run_underlying q2, run_sizeOf q3, q4]
        rw [e2, g2]
        rfl
      · cases hz
    · cases hz
  · exact h.elim
theorem sound_len {x : Operand} {t : TypeId} {K : DV → Prop} (h : dqCall P s ρ g ⟨.builtin .len, #[x], #[t]⟩ K) : ∃ d, K d ∧ (g = true → QSem P s (.call ⟨.builtin .len, #[x], #[t]⟩) ρ d) := by
  simp only [dqCall] at h
  obtain ⟨dx, h, hx⟩ := evg_sound _ h
  split at h
  · split at h
    · obtain ⟨h1, h2⟩ := h
      refine ⟨_, h2, fun hg w0 F0 β w a hs hρ => ⟨_, .data (.v _ rfl), fun o w' ho _ => ?_⟩⟩
      have ex := rv_v (hx hg _ _ _ _ (hρ x))
      simp [execOp, ho, resolve, ex, invoke, builtin, Builtin.len_, run_underlying (isStr_some (h1 hg)), goInt]
    · obtain ⟨h1, h2⟩ := h
      refine ⟨_, h2, fun hg w0 F0 β w a hs hρ => ⟨_, .data (.v _ rfl), fun o w' ho _ => ?_⟩⟩
      obtain ⟨sz, hsz⟩ := Option.isSome_iff_exists.1 (h1 hg)
      obtain ⟨e, inf, g2, g3, rfl⟩ := slElem_some hsz
      have ex := rv_v (hx hg _ _ _ _ (hρ x))
      simp [execOp, ho, resolve, ex, invoke, builtin, Builtin.len_, run_underlying g2, goInt]
    · exact h.elim
  · obtain ⟨h1, h2⟩ := h
    refine ⟨_, h2, fun hg w0 F0 β w a hs hρ => ⟨_, .data (.v _ rfl), fun o w' ho _ => ?_⟩⟩
    obtain ⟨sz, hsz⟩ := Option.isSome_iff_exists.1 (h1 hg)
    obtain ⟨e, inf, g2, g3, rfl⟩ := slElem_some hsz
    obtain ⟨ad, cap, he, _⟩ := rv_lst (hx hg _ _ _ _ (hρ x))
    simp [execOp, ho, resolve, he, invoke, builtin, Builtin.len_, run_underlying g2, goInt]
  · obtain ⟨h1, h2⟩ := h
    refine ⟨_, h2, fun hg w0 F0 β w a hs hρ => ⟨_, .data (.v _ rfl), fun o w' ho _ => ?_⟩⟩
    obtain ⟨sz, hsz⟩ := Option.isSome_iff_exists.1 (h1 hg)
    obtain ⟨e, inf, g2, g3, rfl⟩ := slElem_some hsz
    rcases rv_arr (hx hg _ _ _ _ (hρ x)) with ⟨b, c, hb, hlc, he⟩ | ⟨hb, h3, he⟩
    · simp [execOp, ho, resolve, he, invoke, builtin, Builtin.len_, run_underlying g2, goInt]
    · subst h3
      simp [execOp, ho, resolve, he, invoke, builtin, Builtin.len_, run_underlying g2, goInt]
  · obtain ⟨h1, h2⟩ := h
    refine ⟨_, h2, fun hg w0 F0 β w a hs hρ => ⟨_, .data (.v _ rfl), fun o w' ho _ => ?_⟩⟩
    obtain ⟨sz, hsz⟩ := Option.isSome_iff_exists.1 (h1 hg)
    obtain ⟨e, inf, g2, g3, rfl⟩ := slElem_some hsz
    obtain ⟨ad, n, he, _⟩ := rv_sub (hx hg _ _ _ _ (hρ x))
    simp [execOp, ho, resolve, he, invoke, builtin, Builtin.len_, run_underlying g2, goInt]
  · exact h.elim
theorem sound_min {x y : Operand} {ts : Array TypeId} {K : DV → Prop} (h : dqCall P s ρ g ⟨.builtin .min, #[x, y], ts⟩ K) : ∃ d, K d ∧ (g = true → QSem P s (.call ⟨.builtin .min, #[x, y], ts⟩) ρ d) := by
  simp only [dqCall] at h
  obtain ⟨dx, h, hx⟩ := evg_sound _ h
  obtain ⟨dy, h, hy⟩ := evg_sound _ h
  split at h
  · refine ⟨_, h, fun hg w0 F0 β w a hs hρ => ⟨_, .data (.v _ rfl), fun o w' ho _ => ?_⟩⟩
    have ex := rv_v (hx hg _ _ _ _ (hρ x))
    have ey := rv_v (hy hg _ _ _ _ (hρ y))
    simp [execOp, ho, resolve, ex, ey, invoke, builtin, Builtin.min_, Builtin.min2]
  · exact h.elim
theorem sound_max {x y : Operand} {ts : Array TypeId} {K : DV → Prop} (h : dqCall P s ρ g ⟨.builtin .max, #[x, y], ts⟩ K) : ∃ d, K d ∧ (g = true → QSem P s (.call ⟨.builtin .max, #[x, y], ts⟩) ρ d) := by
  simp only [dqCall] at h
  obtain ⟨dx, h, hx⟩ := evg_sound _ h
  obtain ⟨dy, h, hy⟩ := evg_sound _ h
  split at h
  · refine ⟨_, h, fun hg w0 F0 β w a hs hρ => ⟨_, .data (.v _ rfl), fun o w' ho _ => ?_⟩⟩
    have ex := rv_v (hx hg _ _ _ _ (hρ x))
    have ey := rv_v (hy hg _ _ _ _ (hρ y))
    simp [execOp, ho, resolve, ex, ey, invoke, builtin, Builtin.max_, Builtin.max2]
  · exact h.elim
theorem arr1 {α : Type} {xs : Array α} {x : α} (h : xs.toList = [x]) : xs = #[x] := by
  rw [← Array.toArray_toList (xs := xs), h]
theorem arr2 {α : Type} {xs : Array α} {x y : α} (h : xs.toList = [x, y]) : xs = #[x, y] := by
  rw [← Array.toArray_toList (xs := xs), h]
theorem sound_call {c : Call} {K : DV → Prop} (h : dqCall P s ρ g c K) : ∃ d, K d ∧ (g = true → QSem P s (.call c) ρ d) := by
  obtain ⟨callee, args, ts⟩ := c
  unfold dqCall at h
  split at h
  · rename_i x t h1 h2 h3
    simp only at h1 h2 h3
    rw [h1, arr1 h2, arr1 h3]
    exact sound_len (by unfold dqCall; exact h)
  · rename_i x y h1 h2
    simp only at h1 h2
    rw [h1, arr2 h2]
    exact sound_min (by unfold dqCall; exact h)
  · rename_i x y h1 h2
    simp only at h1 h2
    rw [h1, arr2 h2]
    exact sound_max (by unfold dqCall; exact h)
  · obtain ⟨d, h1, h2⟩ := h
    exact ⟨d, h2, h1⟩
theorem dq_sound (op : Op) {K : DV → Prop} (h : dq P s ρ g op K) : ∃ d, K d ∧ (g = true → QSem P s op ρ d) := by
  have dflt : (∃ d, (g = true → QSem P s op ρ d) ∧ K d) → ∃ d, K d ∧ (g = true → QSem P s op ρ d) := fun ⟨d, h1, h2⟩ => ⟨d, h2, h1⟩
  unfold dq at h
  split at h
  · exact ⟨_, h, fun _ w0 F0 β w a hs hρ => ⟨_, hρ _, fun o w' ho _ => by simp [execOp, ho]⟩⟩
  · exact ⟨_, h, fun _ w0 F0 β w a hs hρ => ⟨_, hρ _, fun o w' ho _ => by simp [execOp, ho]⟩⟩
  · exact sound_pick (by unfold dq; exact h)
  · exact sound_load (by unfold dq; exact h)
  · exact sound_nilCheck (by unfold dq; exact h)
  · exact sound_binOp (by unfold dq; exact h)
  · exact sound_unOp (by unfold dq; exact h)
  · exact sound_convert (by unfold dq; exact h)
  · exact sound_fieldAddr (by unfold dq; exact h)
  · exact sound_indexAddr (by unfold dq; exact h)
  · exact sound_index (by unfold dq; exact h)
  · exact sound_slice (by unfold dq; exact h)
  · exact sound_slice3 (by unfold dq; exact h)
  · exact sound_extract (by unfold dq; exact h)
  · exact sound_makeInterface (by unfold dq; exact h)
  · exact sound_makeFunc (by unfold dq; exact h)
  · exact sound_build (by unfold dq; exact h)
  · exact sound_call h
  · exact dflt h
end
end Go.Dl


