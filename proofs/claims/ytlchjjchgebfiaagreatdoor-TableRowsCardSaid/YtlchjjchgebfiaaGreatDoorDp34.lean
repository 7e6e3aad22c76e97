/-
  The data-level logic, part 34: owned maps, of plain keys and values: looked up, written.
-/
import Derived.Test.YtlchjjchgebfiaaGreatDoorDp33

namespace Go.Dl
open Go Go.RowKit
def plD : Value → DV
  | .agg xs => .agg (xs.toList.map .v)
  | x => .v x
def plOk : Value → Bool
  | .agg xs => xs.toList.all fun x => x.oneCell'
  | x => x.oneCell'
def mapC (l : List (Value × Value)) : List DV := l.flatMap fun e => [plD e.1, plD e.2, .dead]
def mapO (l : List (Value × Value)) : DObj := ⟨MAPT, 1, [.agg (.dead :: mapC l)]⟩
def ent (e : MapEntry) : Value × Value := (e.key, e.val)
theorem rv_plD {w : World} {F : Nat → Prop} {β : Beta} {v x : Value} (h : RV w F β (plD v) x) : x = v := by
  unfold plD at h
  split at h
  · rename_i xs
    obtain ⟨ys, rfl, hl, hp⟩ := rv_agg h
    have : ys = xs.toList := by
      refine List.ext_getElem? fun i => ?_
      rcases Nat.lt_or_ge i ys.length with hi | hi
      · have hi2 : i < xs.toList.length := by rw [List.length_map] at hl; omega
        have := hp i (.v xs.toList[i]) ys[i] (by rw [List.getElem?_map, List.getElem?_eq_getElem hi2]; rfl) (List.getElem?_eq_getElem hi)
        rw [List.getElem?_eq_getElem hi, List.getElem?_eq_getElem hi2, rv_v this]
      · rw [List.getElem?_eq_none hi, List.getElem?_eq_none (by rw [List.length_map] at hl; omega)]
    rw [this, Array.toArray_toList]
  · exact rv_v h
theorem plD_rv {v : Value} (hv : plOk v = true) (w : World) (F : Nat → Prop) (β : Beta) : RV w F β (plD v) v := by
  unfold plD
  unfold plOk at hv
  split
  · rename_i xs
    simp only at hv
    have := RV.agg (w := w) (F := F) (β := β) (xs.toList.map .v) xs.toList (List.length_map _) fun i d x h1 h2 => by
      rw [List.getElem?_map, h2] at h1
      cases h1
      exact .data (.v _ (List.all_eq_true.1 hv x (List.mem_of_getElem? h2)))
    rw [Array.toArray_toList] at this
    exact this
  · rename_i hn
    split at hv
    · rename_i xs; exact absurd rfl (hn xs)
    · exact .data (.v _ hv)
theorem entsOf_C {w : World} {F : Nat → Prop} {β : Beta} : ∀ (l : List (Value × Value)) (ys : List Value), Pw w F β (mapC l) ys → (entsOf ys).map ent = l
  | [], ys, h => by
    have : ys = [] := List.length_eq_zero_iff.1 h.1.symm
    subst this; rfl
  | e :: l, ys, h => by
    have hl : ys.length = (mapC l).length + 3 := by rw [← h.1]; simp [mapC]
    match ys, hl with
    | k :: v :: b :: r, _ =>
      obtain ⟨h1, h⟩ := Pw.tail (show Pw w F β (plD e.1 :: (plD e.2 :: .dead :: mapC l)) (k :: v :: b :: r) from h)
      obtain ⟨h2, h⟩ := h.tail
      obtain ⟨_, h⟩ := h.tail
      show ent ⟨k, v, _⟩ :: (entsOf r).map ent = _
      rw [entsOf_C l r h, rv_plD h1, rv_plD h2]; rfl
theorem mapC_pw {w : World} {F : Nat → Prop} {β : Beta} : ∀ (es : List MapEntry), (∀ e ∈ es, plOk e.key = true ∧ plOk e.val = true) → Pw w F β (mapC (es.map ent)) (es.flatMap fun e => [e.key, e.val, .int .i64 e.born])
  | [], _ => .nil
  | e :: es, h => by
    obtain ⟨h1, h2⟩ := h e (List.mem_cons_self ..)
    exact Pw.cons (plD_rv h1 w F β) (Pw.cons (plD_rv h2 w F β) (Pw.cons (.dead _) (mapC_pw es fun e he => h e (List.mem_cons_of_mem _ he))))
theorem map_rep {w0 w : World} {F : Nat → Prop} {β : Beta} {id : Nat} {l : List (Value × Value)} (h : ORep w0 w F β id (mapO l)) {b c : Nat} (hb : β id = some (some (b, c))) :
    ∃ es clk cur, w.heap[b]? = some (.map es clk) ∧ es.toList.map ent = l ∧ w0.heap.size ≤ b ∧ cur.size = c ∧ c ≤ maxLen ∧ 0 < cur.size ∧ w.heap[b]? = some (blk cur MAPT) := by
  rcases h with g | ⟨b', c', cur, g1, g2, g3, g4, g5, g6, g7⟩
  · cases g.2
  rw [g1] at hb
  simp only [Option.some.injEq, Prod.mk.injEq] at hb
  obtain ⟨rfl, rfl⟩ := hb
  obtain ⟨x, hx, hr⟩ := g7 0 _ rfl
  obtain ⟨ys, rfl, hl, hp⟩ := rv_agg hr
  have hpw : Pw w F β (DV.dead :: mapC l) ys := ⟨hl, hp⟩
  match ys, hl with
  | y :: ys, _ =>
    have h2 := entsOf_C l ys hpw.tail.2
    have hc : cur.toList = .agg (y :: ys).toArray :: cur.toList.tail := by
      have : cur.toList[0]? = some (.agg (y :: ys).toArray) := by simpa using hx
      match e : cur.toList with
      | [] => rw [e] at this; cases this
      | z :: r => rw [e] at this; cases this; rfl
    have hblk : blk cur MAPT = .map (entsOf ys).toArray (natOf y) := by
      show blkM cur MAPT cur.toList = _
      rw [hc]
      show mapOf (y :: ys).toArray.toList = _
      rw [List.toList_toArray]; rfl
    have g3 : w.heap[b']? = some (blk cur MAPT) := g3
    refine ⟨_, _, cur, g3.trans (congrArg some hblk), by rw [List.toList_toArray]; exact h2, g2, by have g4 : cur.size = c' * 1 := g4; omega, g5, ?_, g3⟩
    have := (Array.getElem?_eq_some_iff.1 hx).1
    omega
theorem dq_mlook {P : Program} {s : Sto} {t : TypeId} {m k : Operand} {c : Bool} {ρ : Operand → DV} {id : Nat} {l : List (Value × Value)} {kv : Value} {g : Bool} {K : DV → Prop} (d : DV) (r : Value) (hm : ρ m = .mo id) (ho : s.ob id = some (mapO l)) (hk : ρ k = plD kv)
    (h : ∀ (es : Array MapEntry) (clk b : Nat) (w : World), es.toList.map ent = l → w.heap[b]? = some (.map es clk) → (Instr.lookup t (.map (some b)) kv c).run P w = .ok r w) (hr : ∀ (w : World) (F : Nat → Prop) (β : Beta), RV w F β d r) (hK : K d) :
    ∃ d, (g = true → QSem P s (.lookup t m k c) ρ d) ∧ K d := by
  refine ⟨d, fun _ => ?_, hK⟩
  intro w0 F0 β w a hobs hx
  have h1 := hx m
  rw [hm] at h1
  obtain ⟨b, c', hb, e1⟩ := rv_mo h1
  obtain ⟨es, clk, _, h2, h3, _⟩ := map_rep (hobs id _ ho) hb
  have h4 := hx k
  rw [hk] at h4
  have e2 := rv_plD h4
  refine ⟨r, hr _ _ _, fun o w' hop hkp => ?_⟩
  have := hkp b (Array.getElem?_eq_some_iff.1 h2).1 (.inr ⟨id, _, c', ho, hb⟩)
  have h5 := h es clk b w' h3 (this.trans h2)
  simp only [execOp, hop, e1, e2, Sem.run_bind, h5]
  rfl
theorem esem_mup [Inhabited GlobS] {P : Program} {s : Sto} {t : TypeId} {m k x : Operand} {ρ : Operand → DV} {K : DV → Sto → Prop} {id : Nat} {l : List (Value × Value)} {kv xv : Value} (l' : List (Value × Value)) (hm : ρ m = .mo id) (ho : s.ob id = some (mapO l)) (hk : ρ k = plD kv) (hx : ρ x = plD xv)
    (hl' : ∀ e ∈ l', plOk e.1 = true ∧ plOk e.2 = true)
    (hrun : ∀ (es : Array MapEntry) (clk b : Nat) (w : World), es.toList.map ent = l → w.heap[b]? = some (.map es clk) → ∃ es' clk', es'.toList.map ent = l' ∧ (Instr.mapUpdate t (.map (some b)) kv xv).run P w = .ok () (w.putObj b (.map es' clk')))
    (hK : K (.tup []) ⟨upd s.ob id (some (mapO l')), s.nx⟩) : ESem P s (.mapUpdate t m k x) ρ K := by
  intro w0 F0 β w a hs hρ
  have h1 := hρ m
  rw [hm] at h1
  obtain ⟨b, c, hb, e1⟩ := rv_mo h1
  obtain ⟨es, clk, cur, h2, h3, h4, h5, h6, h7, h8⟩ := map_rep (hs.obs id _ ho) hb
  have hkv := hρ k
  rw [hk] at hkv
  have e2 := rv_plD hkv
  have hxv := hρ x
  rw [hx] at hxv
  have e3 := rv_plD hxv
  obtain ⟨es', clk', q1, q2⟩ := hrun es clk b w h3 h2
  have hlt : b < w.heap.size := (Array.getElem?_eq_some_iff.1 h2).1
  let y : Value := .agg (#[.int .i64 clk'] ++ (es'.toList.flatMap fun e => [e.key, e.val, .int .i64 e.born]).toArray)
  have hblk : blk (cur.setIfInBounds 0 y) MAPT = .map es' clk' := by
    have hc : (cur.setIfInBounds 0 y).toList = y :: cur.toList.tail := by
      rw [Array.toList_setIfInBounds]
      match e : cur.toList with
      | [] => have : cur.toList.length = 0 := by rw [e]; rfl
              rw [Array.length_toList] at this; omega
      | z :: r => rfl
    show blkM _ MAPT (cur.setIfInBounds 0 y).toList = _
    rw [hc]
    show mapOf (#[Value.int .i64 clk'] ++ (es'.toList.flatMap fun e => [e.key, e.val, .int .i64 e.born]).toArray).toList = _
    rw [Array.toList_append, List.toList_toArray]
    show Obj.map (entsOf (es'.toList.flatMap fun e => [e.key, e.val, .int .i64 e.born])).toArray (Int.toNat (clk' : Int)) = _
    rw [entsOf_flat, Int.toNat_natCast, Array.toArray_toList]
  have hoth : ∀ j, j ≠ b → (w.putObj b (.map es' clk')).heap[j]? = w.heap[j]? := fun j hj => World.putObj_heap_other hj
  have hself : (w.putObj b (.map es' clk')).heap[b]? = some (.map es' clk') := World.putObj_heap_same hlt
  obtain ⟨k1, k2⟩ := hs.rewrite id (mapO l) ho b c hb (w.putObj b (.map es' clk')) (cur.setIfInBounds 0 y) [.agg (.dead :: mapC l')]
    ⟨rfl, rfl, rfl, by simp, fun j hj => hoth j (by omega), fun _ => Nat.le_refl _⟩ hoth (by rw [hself]; exact congrArg some hblk.symm) (by rw [Array.size_setIfInBounds]; show _ = c * 1; omega) (by rw [Array.size_setIfInBounds]; exact h7)
    (fun j d hj => by
      match j, hj with
      | 0, hj =>
        cases hj
        refine ⟨y, by rw [Array.getElem?_setIfInBounds_self_of_lt h7], ?_⟩
        have hp := mapC_pw (w := w) (F := Fr w0 F0 s β) (β := β) es'.toList (fun e he => hl' (ent e) (by rw [← q1]; exact List.mem_map_of_mem he))
        rw [q1] at hp
        have hp2 := Pw.cons (d := .dead) (x := .int .i64 clk') (.dead _) hp
        have := RV.agg _ _ hp2.1 hp2.2
        show RV _ _ _ _ (.agg (#[.int .i64 clk'] ++ (es'.toList.flatMap fun e => [e.key, e.val, .int .i64 e.born]).toArray))
        have e : (#[Value.int .i64 clk'] ++ (es'.toList.flatMap fun e => [e.key, e.val, .int .i64 e.born]).toArray) = (Value.int .i64 clk' :: (es'.toList.flatMap fun e => [e.key, e.val, .int .i64 e.born])).toArray := by simp
        rw [e]; exact this)
  refine ⟨.skip, undef, _, _, _, β, .inr ⟨rfl, rfl⟩, fun op hop => ?_, hK, k1, k2 _, Nat.le_refl _, .tup [] [] rfl (fun i d x h => by simp at h), fun b2 _ h => hoth b2 (fun e => h id c (by simp [etgt, hm, str0]) (by rw [e]; exact hb)), fun i b2 c2 hi hb2 _ => .inl ⟨by
    by_cases e : i = id
    · subst e; simp [ho]
    · simpa only [upd_ne _ _ _ e] using hi, hb2⟩⟩
  simp only [execOp, hop, e1, e2, e3, Sem.run_bind, q2]
  rfl
end Go.Dl


