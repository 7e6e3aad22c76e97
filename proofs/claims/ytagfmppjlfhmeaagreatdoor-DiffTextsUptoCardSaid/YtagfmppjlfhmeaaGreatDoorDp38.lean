/-
  The data-level logic: a pointer beside nil.
-/
import Derived.Test.YtagfmppjlfhmeaaGreatDoorDp23
import Derived.Laws.Pointers
import Derived.Laws.CopyRow
import Derived.Test.YtagfmppjlfhmeaaGreatDoorDp32

namespace Go.Dl
open Go Go.RowKit
section
variable {P : Program} {s : Sto} {t : TypeId} {x y : Operand} {yt : TypeId} {ρ : Operand → DV} {g : Bool} {K : DV → Prop}
theorem run_eqPtr (ht : P.underlying t = some (.pointer (P.pointee t))) (p : Option Addr) (x y : Operand) (w : World) :
    ((do eqGuard .eql t x y (.pointer p) (.pointer none); binOp .eql t (.pointer p) (.pointer none)) : Sem Value).run P w = .ok (.bool p.isNone) w ∧
    ((do eqGuard .neq t x y (.pointer p) (.pointer none); binOp .neq t (.pointer p) (.pointer none)) : Sem Value).run P w = .ok (.bool (!p.isNone)) w := by
  have h1 := run_eql_pointer_nil (P := P) w t p ht
  have h2 := run_neq_pointer_nil (P := P) w t p ht
  constructor
  · simp [eqGuard, h1]
  · simp [eqGuard, h2]
theorem ptr_of_lref {sz i off : Nat} {es : List (List DV)} (hx : ρ x = .lref sz es i off) {w : World} {F : Nat → Prop} {β : Beta} {v : Value} (h : RV w F β (ρ x) v) : ∃ a, v = .pointer (some a) := by
  rw [hx] at h
  cases h with
  | data h => cases h
  | lref _ _ _ _ b o cap h1 h2 => exact ⟨_, rfl⟩
theorem qsem_ptr {b : Bool} (ht : P.underlying t = some (.pointer (P.pointee t))) (hx : ∀ (w : World) (F : Nat → Prop) (β : Beta) (v : Value), RV w F β (ρ x) v → ∃ a, v = .pointer a ∧ a.isNone = b) (hy : ρ y = .v (.pointer none)) :
    QSem P s (.binOp .eql t x y yt) ρ (.v (.bool b)) ∧ QSem P s (.binOp .neq t x y yt) ρ (.v (.bool (!b))) := by
  constructor <;> intro w0 F0 β w ac hs hρ <;>
  · obtain ⟨a, e1, e2⟩ := hx _ _ _ _ (hρ x)
    have h2 := hρ y
    rw [hy] at h2
    have e3 := rv_v h2
    refine ⟨_, .data (.v _ rfl), fun o w' ho _ => ?_⟩
    have k := run_eqPtr ht a x y w'
    simp only [execOp, ho, e1, e3]
    first
      | (have k := k.1; rw [e2] at k; simp only [Sem.run_bind] at k ⊢; rw [k]; simp)
      | (have k := k.2; rw [e2] at k; simp only [Sem.run_bind] at k ⊢; rw [k]; simp)
theorem dq_ptrE {sz i off : Nat} {es : List (List DV)} (ht : P.underlying t = some (.pointer (P.pointee t))) (hx : ρ x = .lref sz es i off) (hy : ρ y = .v (.pointer none)) (hK : K (.v (.bool false))) :
    ∃ d, (g = true → QSem P s (.binOp .eql t x y yt) ρ d) ∧ K d :=
  ⟨_, fun _ => (qsem_ptr (b := false) ht (fun _ _ _ _ h => by obtain ⟨a, e⟩ := ptr_of_lref hx h; exact ⟨_, e, rfl⟩) hy).1, hK⟩
theorem dq_ptrN {sz i off : Nat} {es : List (List DV)} (ht : P.underlying t = some (.pointer (P.pointee t))) (hx : ρ x = .lref sz es i off) (hy : ρ y = .v (.pointer none)) (hK : K (.v (.bool true))) :
    ∃ d, (g = true → QSem P s (.binOp .neq t x y yt) ρ d) ∧ K d :=
  ⟨_, fun _ => (qsem_ptr (b := false) ht (fun _ _ _ _ h => by obtain ⟨a, e⟩ := ptr_of_lref hx h; exact ⟨_, e, rfl⟩) hy).2, hK⟩
theorem nil_of_ptr (hx : ρ x = .v (.pointer none)) {w : World} {F : Nat → Prop} {β : Beta} {v : Value} (h : RV w F β (ρ x) v) : ∃ a, v = .pointer a ∧ a.isNone = true := by
  rw [hx] at h
  exact ⟨none, rv_v h, rfl⟩
theorem dq_pnilE (ht : P.underlying t = some (.pointer (P.pointee t))) (hx : ρ x = .v (.pointer none)) (hy : ρ y = .v (.pointer none)) (hK : K (.v (.bool true))) :
    ∃ d, (g = true → QSem P s (.binOp .eql t x y yt) ρ d) ∧ K d :=
  ⟨_, fun _ => (qsem_ptr (b := true) ht (fun _ _ _ _ h => nil_of_ptr hx h) hy).1, hK⟩
theorem dq_pnilN (ht : P.underlying t = some (.pointer (P.pointee t))) (hx : ρ x = .v (.pointer none)) (hy : ρ y = .v (.pointer none)) (hK : K (.v (.bool false))) :
    ∃ d, (g = true → QSem P s (.binOp .neq t x y yt) ρ d) ∧ K d :=
  ⟨_, fun _ => (qsem_ptr (b := true) ht (fun _ _ _ _ h => nil_of_ptr hx h) hy).2, hK⟩
end
end Go.Dl

namespace Go.Dl
open Go Go.RowKit
section
variable {P : Program} {s : Sto} {t : TypeId} {x y : Operand} {yt : TypeId} {ρ : Operand → DV} {g : Bool} {K : DV → Prop}
theorem qsem_ptrW {b : Bool} (ht : P.underlying t = some (.pointer (P.pointee t))) (hx : ∀ (w : World) (F : Nat → Prop) (β : Beta) (v : Value), RV w F β (ρ x) v → ∃ a, v = .pointer a ∧ a.isNone = b) (wy : wok (ρ y)) (hy : str (ρ y) = .v (.pointer none)) :
    QSem P s (.binOp .eql t x y yt) ρ (.v (.bool b)) ∧ QSem P s (.binOp .neq t x y yt) ρ (.v (.bool (!b))) := by
  constructor <;> intro w0 F0 β w ac hs hρ <;>
  · obtain ⟨a, e1, e2⟩ := hx _ _ _ _ (hρ x)
    have h2 := rv_str _ wy (hρ y)
    rw [hy] at h2
    have e3 := rv_v h2
    refine ⟨_, .data (.v _ rfl), fun o w' ho _ => ?_⟩
    have k := run_eqPtr ht a x y w'
    simp only [execOp, ho, e1, e3]
    first
      | (have k := k.1; rw [e2] at k; simp only [Sem.run_bind] at k ⊢; rw [k]; simp)
      | (have k := k.2; rw [e2] at k; simp only [Sem.run_bind] at k ⊢; rw [k]; simp)
theorem ptrW_lref {sz i off : Nat} {es : List (List DV)} (wx : wok (ρ x)) (hx : str (ρ x) = .lref sz es i off) (w : World) (F : Nat → Prop) (β : Beta) (v : Value) (h : RV w F β (ρ x) v) : ∃ a, v = .pointer a ∧ a.isNone = false := by
  have h1 := rv_str _ wx h
  rw [hx] at h1
  cases h1 with
  | data h => cases h
  | lref _ _ _ _ b o cap h1 h2 => exact ⟨_, rfl, rfl⟩
theorem ptrW_nil (wx : wok (ρ x)) (hx : str (ρ x) = .v (.pointer none)) (w : World) (F : Nat → Prop) (β : Beta) (v : Value) (h : RV w F β (ρ x) v) : ∃ a, v = .pointer a ∧ a.isNone = true := by
  have h1 := rv_str _ wx h
  rw [hx] at h1
  exact ⟨none, rv_v h1, rfl⟩
theorem dq_ptrEw {sz i off : Nat} {es : List (List DV)} (ht : P.underlying t = some (.pointer (P.pointee t))) (wx : g = true → wok (ρ x)) (hx : str (ρ x) = .lref sz es i off) (wy : g = true → wok (ρ y)) (hy : str (ρ y) = .v (.pointer none)) (hK : K (.v (.bool false))) :
    ∃ d, (g = true → QSem P s (.binOp .eql t x y yt) ρ d) ∧ K d := ⟨_, fun hg => (qsem_ptrW ht (ptrW_lref (wx hg) hx) (wy hg) hy).1, hK⟩
theorem dq_ptrNw {sz i off : Nat} {es : List (List DV)} (ht : P.underlying t = some (.pointer (P.pointee t))) (wx : g = true → wok (ρ x)) (hx : str (ρ x) = .lref sz es i off) (wy : g = true → wok (ρ y)) (hy : str (ρ y) = .v (.pointer none)) (hK : K (.v (.bool true))) :
    ∃ d, (g = true → QSem P s (.binOp .neq t x y yt) ρ d) ∧ K d := ⟨_, fun hg => (qsem_ptrW ht (ptrW_lref (wx hg) hx) (wy hg) hy).2, hK⟩
theorem dq_pnilEw (ht : P.underlying t = some (.pointer (P.pointee t))) (wx : g = true → wok (ρ x)) (hx : str (ρ x) = .v (.pointer none)) (wy : g = true → wok (ρ y)) (hy : str (ρ y) = .v (.pointer none)) (hK : K (.v (.bool true))) :
    ∃ d, (g = true → QSem P s (.binOp .eql t x y yt) ρ d) ∧ K d := ⟨_, fun hg => (qsem_ptrW ht (ptrW_nil (wx hg) hx) (wy hg) hy).1, hK⟩
theorem dq_pnilNw (ht : P.underlying t = some (.pointer (P.pointee t))) (wx : g = true → wok (ρ x)) (hx : str (ρ x) = .v (.pointer none)) (wy : g = true → wok (ρ y)) (hy : str (ρ y) = .v (.pointer none)) (hK : K (.v (.bool false))) :
    ∃ d, (g = true → QSem P s (.binOp .neq t x y yt) ρ d) ∧ K d := ⟨_, fun hg => (qsem_ptrW ht (ptrW_nil (wx hg) hx) (wy hg) hy).2, hK⟩
theorem dq_off {op : Op} (h : g = false) (hK : K .dead) : ∃ d, (g = true → QSem P s op ρ d) ∧ K d := ⟨_, fun hg => (by rw [h] at hg; cases hg), hK⟩
end
end Go.Dl
namespace Go.Dl
open Go Go.RowKit
theorem esem_copy [Inhabited GlobS] {P : Program} {s : Sto} {ρ : Operand → DV} {K : DV → Sto → Prop} {x y : Operand} {t u e : TypeId} {id off len : Nat} {ob : DObj} {l : List DV} (ht : P.underlying t = some (.slice e)) (hi : (P.info? e).map (·.size) = some 1)
    (hx : ρ x = .sub id off len) (hy : ρ y = .lst 1 (l.map fun d => [d])) (hob : s.ob id = some ob) (hm : Nat.beq ob.elem MAPT = false) (_hos : ob.sz = 1) (h0 : 0 < l.length) (hle : l.length ≤ len) (hfit : off + l.length ≤ ob.cells.length)
    (hK : K (.v (.int .i64 l.length)) ⟨upd s.ob id (some { ob with cells := ob.cells.take off ++ l ++ ob.cells.drop (off + l.length) }), s.nx⟩) : ESem P s (.call ⟨.builtin .copy, #[x, y], #[t, u]⟩) ρ K := by
  intro w0 F0 β w a hs hρ
  have hvx := hρ x
  have hvy := hρ y
  rw [hx] at hvx
  rw [hy] at hvy
  obtain ⟨ad, n, q0, q1, _, q3⟩ := rv_sub hvx
  obtain ⟨b, c, hb, rfl⟩ := q1 (by omega)
  rcases hs.obs id ob hob with g | ⟨b', c', cur, g1, g2, g3, g4, g5, g6, g7⟩
  · rw [g.1] at hb; cases hb
  rw [g1] at hb
  simp only [Option.some.injEq, Prod.mk.injEq] at hb
  obtain ⟨rfl, rfl⟩ := hb
  rw [blk_cells hm] at g3
  have hel : (l.map fun d => [d]).length = l.length := List.length_map _
  obtain ⟨b2, o2, c2, hye, hcells⟩ : ∃ b2 o2 c2, a.eval y = .slice (some ⟨b2, o2, none⟩) l.length c2 ∧ ∀ j (hj : j < l.length), ∃ v, w.cell? ⟨b2, o2 + j, none⟩ = some v ∧ RD w (Fr w0 F0 s β) l[j] v := by
    generalize hyv : a.eval y = yv at hvy
    generalize hes : (l.map fun d => [d]) = es at hvy
    cases hvy with
    | data hd =>
      cases hd with
      | lst _ _ a2 b2 o2 c2 gg ha hn hc hmx hsz hcell hdd =>
        have hlen : es.length = l.length := by rw [← hes, hel]
        have hne : es ≠ [] := fun e => by rw [e] at hlen; simp at hlen; omega
        refine ⟨b2, o2, c2, by rw [ha hne, hlen], fun j hj => ?_⟩
        have h1 : es[j]? = some [l[j]] := by rw [← hes, List.getElem?_map, List.getElem?_eq_getElem hj]; rfl
        have h2 := (hcell j _ 0 _ h1 rfl).1
        have h3 := hdd j _ 0 _ h1 rfl
        rw [Nat.mul_one, Nat.add_zero] at h2
        exact ⟨_, h2, h3⟩
  have hcs : ∃ vs : List Value, vs.length = l.length ∧ ∀ j (hj : j < l.length), ∃ v, vs[j]? = some v ∧ w.cell? ⟨b2, o2 + j, none⟩ = some v ∧ RD w (Fr w0 F0 s β) l[j] v := by
    refine ⟨(List.range l.length).map fun j => (w.cell? ⟨b2, o2 + j, none⟩).getD undef, by simp, fun j hj => ?_⟩
    obtain ⟨v, h1, h2⟩ := hcells j hj
    exact ⟨v, by simp [List.getElem?_range hj, h1], h1, h2⟩
  obtain ⟨vs, hvl, hvs⟩ := hcs
  have hget : ∀ j v, vs[j]? = some v → ∃ hj : j < l.length, w.cell? ⟨b2, o2 + j, none⟩ = some v ∧ RD w (Fr w0 F0 s β) l[j] v := fun j v hv => by
    have hj : j < l.length := by rw [← hvl]; exact (List.getElem?_eq_some_iff.1 hv).1
    obtain ⟨v', e1, e2, e3⟩ := hvs j hj
    rw [hv] at e1; cases e1
    exact ⟨hj, e2, e3⟩
  have hcl : ob.cells.length ≤ cur.toList.length := by simpa using g6
  have hrun := fun ty => run_copy_row (P := P) w t u ty e b' off len n ⟨b2, o2, none⟩ l.length c2 cur ob.elem vs ht hi g3 (by rw [hvl]; exact (Nat.min_eq_left hle).symm) (fun j v hv => by
    obtain ⟨_, e2, _⟩ := hget j v hv
    rw [Addr.add_lit]; exact e2) (by rw [hvl]; simp at hcl; omega) (fun v hv => by
    obtain ⟨j, hj, rfl⟩ := List.getElem_of_mem hv
    obtain ⟨_, _, e3⟩ := hget j _ (List.getElem?_eq_getElem hj)
    exact e3.one)
  rw [hvl] at hrun
  have hpl : (cur.toList.take off).length = off := by simp only [List.length_take]; omega
  have hpl2 : (ob.cells.take off).length = off := by simp only [List.length_take]; omega
  have hsz2 : (cur.toList.take off ++ vs ++ cur.toList.drop (off + l.length)).toArray.size = cur.size := by
    simp only [List.size_toArray, List.length_append, hpl, hvl, List.length_drop]
    have : cur.toList.length = cur.size := by simp
    omega
  obtain ⟨k1, k2⟩ := hs.rewrite id ob hob b' c' g1 (w.setRow b' (cur.toList.take off ++ vs ++ cur.toList.drop (off + l.length)).toArray) _ (ob.cells.take off ++ l ++ ob.cells.drop (off + l.length))
    (below_setRow w b' _) (fun k hk => setRow_other w b' k _ hk) (by rw [blk_cells hm]; exact setRow_heap w b' cur _ _ _ g3) (by rw [hsz2]; exact g4) (by
      rw [hsz2]; simp only [List.length_append, hpl2, List.length_drop]
      have : cur.toList.length = cur.size := by simp
      omega) (fun j d hj => by
      simp only [List.getElem?_toArray]
      rw [List.getElem?_append] at hj ⊢
      simp only [List.length_append, hpl, hpl2, hvl] at hj ⊢
      split at hj
      · rename_i hjA
        rw [if_pos hjA]
        rw [List.getElem?_append] at hj ⊢
        simp only [hpl, hpl2] at hj ⊢
        split at hj
        · rename_i hjl
          rw [if_pos hjl]
          rw [List.getElem?_take, if_pos hjl] at hj ⊢
          obtain ⟨q, hq, hr2⟩ := g7 j d hj
          exact ⟨q, by simpa using hq, hr2⟩
        · rename_i hjl
          rw [if_neg hjl]
          obtain ⟨v, e1, _, e3⟩ := hvs (j - off) (by omega)
          have hjl2 : j - off < l.length := by omega
          rw [List.getElem?_eq_getElem hjl2] at hj
          cases hj
          exact ⟨v, e1, .data e3⟩
      · rename_i hjA
        rw [if_neg hjA]
        rw [List.getElem?_drop, show off + l.length + (j - (off + l.length)) = j by omega] at hj ⊢
        obtain ⟨q, hq, hr2⟩ := g7 j d hj
        exact ⟨q, by simpa using hq, hr2⟩)
  have htg : etgt ρ (.call ⟨.builtin .copy, #[x, y], #[t, u]⟩) = some id := by
    show (match str0 (ρ x) with | .arr id _ => some id | .sub id _ _ => some id | _ => none) = some id
    rw [hx]; rfl
  refine ⟨_, .int .i64 l.length, _, _, _, β, .inl rfl, fun o ho => ?_, hK, k1, k2 _, Nat.le_refl _, .data (.v _ rfl), fun b3 _ h2 => setRow_other w b' b3 _ (fun e => h2 id c' htg (by rw [e]; exact g1)), fun i b3 c3 hi3 hb3 _ => .inl ⟨by
    by_cases e : i = id
    · subst e; simp [hob]
    · simpa only [upd_ne _ _ _ e] using hi3, hb3⟩⟩
  have hr := hrun o.type
  simp only [execOp, ho, resolve, invoke, builtin, Sem.run_bind, Sem.run_pure, Result.andThen_ok, List.map_toArray, List.map_cons, List.map_nil, q0, hye, hr]
  rfl
end Go.Dl
namespace Go.Dl
open Go Go.RowKit
variable {P : Program}
theorem Tri.code [Inhabited GlobS] {N : Nat} {Y : YT} {c : Code} {st : St} {Q : DExit → St → Prop} (hk : codeOk P N c = true) (h : dcode P N Y c st Q) : Tri P N Y c st Q := dcode_sound c hk h
theorem Tri.seq [Inhabited GlobS] {N : Nat} {Y : YT} {x y : Code} {st : St} {Q : DExit → St → Prop} (h : Tri P N Y x st (dthen (fun st' => Tri P N Y y st' Q) Q)) : Tri P N Y (.seq x y) st Q := fun G hN hY β a w R hr hR =>
  wpIn_seq (h G hN hY β a w _ hr fun e st' β' a' w' hQ hr' => by
    cases e with
    | normal => exact (show Tri P N Y y st' Q from hQ) G hN hY β' a' w' R hr' hR
    | exit id => exact hR _ _ _ _ _ hQ hr'
    | goto l => exact hR _ _ _ _ _ hQ hr'
    | ret => exact hR _ _ _ _ _ hQ hr')
theorem calls_bodyT [Inhabited GlobS] {f : FuncId} {fn : Func} {c : Code} {Y : YT} {G : Org} {st0 : St} {β : Beta} {w : World} {vals : List Value} {Q : DExit → St → Prop} {R : Ending → World → Prop}
    (hf : P.funcs[f]? = some fn) (hb : fn.body = some c) (hN : G.N = fn.ntmps) (hrd : G.rd = none) (hY : YOk P G Y)
    (hr : Rel G st0 β { tmps := vals.toArray ++ Array.replicate (fn.ntmps - vals.toArray.size) undef, defers := [] } w)
    (h : Tri P fn.ntmps Y c st0 Q) (hq : ∀ e st, Q e st → e = .normal ∨ e = .ret)
    (hR : ∀ e st' β' a' w', Q e st' → Rel G st' β' a' w' → ∃ v, (results fn a'.tmps).run P w' = .ok v w' ∧ R (.returned v) w') : Calls P f vals.toArray w R := by
  refine callsOfWd (r := none) (n := 0) (callsIn_of_wp_marks hf hb trivial ?_)
  have := h G hN hY β _ w (bodyPostM (Wd none) 0 P fn R) hr fun e st' β' a' w' hQ hr' => by
    have := leaves_marks (F := Wd none) (fn := fn) (R := R) a'.defers rfl hr' (fun w2 h2 => hR e st' β' { a' with defers := [] } w2 hQ h2)
    rcases hq _ _ hQ with rfl | rfl
    · exact this
    · exact this
  rw [hrd] at this
  exact this
theorem SCall.runT [Inhabited GlobS] {f : FuncId} {fn : Func} {c : Code} {args : List DV} {s : Sto} {K : DV → Sto → Prop} (hf : P.funcs[f]? = some fn) (hb : fn.body = some c) (hn : args.length ≤ fn.ntmps)
    (h : Tri P fn.ntmps noY c ⟨⟨s.nx, []⟩, entryTm 0 args (fun _ => .dead), s⟩ (dend P fn.results.toList K)) : SCall P f args s K := by
  intro w0 F0 β w vals hs hx
  let G : Org := ⟨fn.ntmps, w0, F0, s.nx, s, β, w, nX, fun _ _ h => h, fun _ h => h.elim, fun _ _ _ c => c = [], fun _ _ _ _ _ _ _ h _ => h, none⟩
  have hvl : vals.length = args.length := hx.1.symm
  have hr : Rel G ⟨⟨s.nx, []⟩, entryTm 0 args (fun _ => .dead), s⟩ β { tmps := vals.toArray ++ Array.replicate (fn.ntmps - vals.toArray.size) undef, defers := [] } w :=
    ⟨hs, .refl, Nat.le_refl _, Nat.le_refl _, entry_rv hx _, by simp [G]; omega, ⟨fun d hd => by simp at hd, .nil, fun _ => rfl⟩, rfl, trivial⟩
  refine calls_bodyT hf hb (G := G) rfl rfl noY_ok hr h (fun e st hQ => ?_) fun e st' β' a' w' hQ hr' => ?_
  · cases e with
    | normal => exact .inl rfl
    | ret => exact .inr rfl
    | exit id => exact hQ.elim
    | goto l => exact hQ.elim
  · have hQ : dress P fn.results.toList st' (dout K st'.s) := by
      cases e with
      | normal => exact hQ
      | ret => exact hQ
      | exit id => exact hQ.elim
      | goto l => exact hQ.elim
    obtain ⟨v, d, h1, h2, h3⟩ := run_out hr' hQ
    exact ⟨v, h1, v, d, st'.s, β', rfl, h2, hr'.srel, hr'.ext, hr'.nxb, h3⟩
theorem DFun.bodyT [Inhabited GlobS] {f : FuncId} {fn : Func} {c : Code} {args : List DV} {Q : DV → Sto → Prop} (hf : P.funcs[f]? = some fn) (hb : fn.body = some c) (hn : args.length ≤ fn.ntmps)
    (h : Tri P fn.ntmps noY c ⟨0, entryTm 0 args (fun _ => .dead), .empty⟩ (dend P fn.results.toList Q)) : DFun P f args Q := .of_scall (.runT hf hb hn h)
theorem dops_pre [Inhabited GlobS] {Y : YT} {ops : Array Oper} {G : Org} (hY : YOk P G Y) {Q : Exit → Act → World → Prop} (rest : List Oper) (l : List Oper) (hnd : ∀ o ∈ l, noDefer o = true) (hd : ∀ o ∈ l, (o.dst.all fun t => decide (t < G.N)) = true) : ∀ {st : St} {K : St → Prop}, dops P Y ops false l st K →
    ∀ {β : Beta} {a : Act} {w : World}, Rel G st β a w → (∀ st' β' a' w', K st' → Rel G st' β' a' w' → listIn G.rd P ops Q rest a' w') → listIn G.rd P ops Q (l ++ rest) a w := by
  induction l with
  | nil => intro st K h β a w hr hQ; exact hQ _ _ _ _ h hr
  | cons o l ih =>
    intro st K h β a w hr hQ
    have := dstep_sound hY (hnd o (List.mem_cons_self ..)) (hd o (List.mem_cons_self ..)) h hr (next := listIn G.rd P ops Q (l ++ rest)) (Q := Q) (fun st' β' a' w' hK hr' => ih (fun o ho => hnd o (List.mem_cons_of_mem _ ho)) (fun o ho => hd o (List.mem_cons_of_mem _ ho)) hK hr' hQ)
    rw [List.cons_append]
    unfold listIn
    exact this
def ESemW [Inhabited GlobS] (P : Program) (s : Sto) (op : Op) (ρ : Operand → DV) (K : DV → Sto → Prop) : Prop :=
  ∀ (w0 : World) (F0 : Nat → Prop) (β : Beta) (w : World) (a : Act), SRel w0 F0 s β w → (∀ x, RV w (Fr w0 F0 s β) β (ρ x) (a.eval x)) →
    ∃ v w' d s' β', (∀ (o : Oper), o.op = op → (execOp a.eval o).run P w = .ok (.value v) w') ∧ K d s' ∧
      SRel w0 F0 s' β' w' ∧ Ext s.nx w0 nX s β w s' β' w' ∧ s.nx ≤ s'.nx ∧ RV w' (Fr w0 F0 s' β') β' d v
theorem Tri.eff [Inhabited GlobS] {N : Nat} {Y : YT} {id : Nat} {ops : Array Oper} {st : St} {Q : DExit → St → Prop} (pre : List Oper) (o : Oper) (post : List Oper) (hops : ops.toList = pre ++ o :: post) (hk : (ops.toList.all fun o => noDefer o && o.dst.all fun t => decide (t < N)) = true) (hgd : o.guard = none)
    (h : dops P Y ops false pre st fun st1 => ESemW P st1.s o.op (ev st1.tm) fun d s' => dops P Y ops false post ((st1.setS s').put o.dst d) (Q .normal)) : Tri P N Y (.region id ops false) st Q := by
  intro G hN hY β a w R hr hR
  have hal : ∀ o ∈ ops.toList, noDefer o = true ∧ (o.dst.all fun t => decide (t < G.N)) = true := fun o ho => by
    rw [hN]; exact Bool.and_eq_true_iff.1 (List.all_eq_true.1 hk o ho)
  rw [hops] at hal
  refine wpIn_list ?_
  rw [hops]
  refine dops_pre hY (o :: post) pre (fun o' ho => (hal o' (List.mem_append_left _ ho)).1) (fun o' ho => (hal o' (List.mem_append_left _ ho)).2) h hr fun st1 β1 a1 w1 hK hr1 => ?_
  have ho := hal o (List.mem_append_right _ (List.mem_cons_self ..))
  obtain ⟨v, w', d, s', β', hrun, hK2, k1, k2, k3, k4⟩ := hK _ _ _ _ _ hr1.srel hr1.ev
  have hnext := dops_sound hY post (fun o' ho' => (hal o' (List.mem_append_right _ (List.mem_cons_of_mem _ ho'))).1) (fun o' ho' => (hal o' (List.mem_append_right _ (List.mem_cons_of_mem _ ho'))).2) hK2 (hr1.step k1 k2 k3 _ ho.2 _ _ k4) (Q := R) (fun st' β' a' w' hq hr' => hR .normal _ _ _ _ hq hr')
  unfold listIn
  rw [if_pos (by unfold Region.wanted; rw [hgd])]
  exact opIn_value ho.1 (hrun o rfl) hnext
theorem SRel.spoilD [Inhabited GlobS] {w0 : World} {F0 : Nat → Prop} {s : Sto} {β : Beta} {w : World} (h : SRel w0 F0 s β w) (j : Nat) (o : DObj) (hob : s.ob j = some o) (b c : Nat) (hb : β j = some (some (b, c)))
    (w' : World) (hbel : BelowD b w w') (hoth : ∀ k, k ≠ b → w'.heap[k]? = w.heap[k]?) :
    SRel w0 F0 ⟨upd s.ob j none, s.nx⟩ β w' ∧ ∀ n, Ext n w0 nX s β w ⟨upd s.ob j none, s.nx⟩ β w' := by
  have hge : w0.heap.size ≤ b := by
    rcases h.obs j o hob with k1 | ⟨b2, c2, cur2, k1, k2, _⟩
    · rw [k1.1] at hb; cases hb
    · rw [k1] at hb; cases hb; exact k2
  have hsome : ∀ i, ((upd s.ob j none) i).isSome = true → (s.ob i).isSome = true ∧ i ≠ j := fun i => by
    by_cases e : i = j
    · subst e; simp
    · rw [upd_ne _ _ _ e]; exact fun h => ⟨h, e⟩
  have hnU : ¬ Un w0 s β b := fun hF => by
    rcases hF with hF | hF
    · omega
    · exact hF.2 j c (by simp [hob]) hb
  have hU : ∀ k, Un w0 s β k → Un w0 ⟨upd s.ob j none, s.nx⟩ β k := fun k hF => by
    rcases hF with hF | hF
    · exact .inl hF
    · exact .inr ⟨hF.1, fun i c' hi => hF.2 i c' (hsome i hi).1⟩
  have hext : ∀ n, Ext n w0 nX s β w ⟨upd s.ob j none, s.nx⟩ β w' := fun n => ⟨fun _ _ _ hp => hp, hbel.size, fun k hk _ hF => ⟨hU k hF, hoth k (fun e => hnU (e ▸ hF))⟩⟩
  refine ⟨⟨h.below.trans (hbel.mono hge), fun i oi hi => ?_, fun i k b2 c1 c2 hi hk => h.inj i k b2 c1 c2 (hsome i hi).1 (hsome k hk).1, fun i hi => ?_, fun k hk => h.up k (Nat.le_trans hbel.size hk), fun i b2 c2 hi hb2 => h.own i b2 c2 (hsome i hi).1 hb2, h.gl⟩, hext⟩
  · have hi2 : upd s.ob j none i = some oi := hi
    obtain ⟨hi1, hij⟩ := hsome i (by rw [hi2]; rfl)
    have hi' : s.ob i = some oi := by simpa [upd_ne _ _ _ hij] using hi
    rcases h.obs i oi hi' with k1 | ⟨b2, c2, cur2, k1, k2, k3, k4, k5, k6, k7⟩
    · exact .inl k1
    · refine .inr ⟨b2, c2, cur2, k1, k2, ?_, k4, k5, k6, fun m d hm => ?_⟩
      · rw [hoth b2 (fun e => hij (h.inj i j b2 c2 c (by simp [hi']) (by simp [hob]) k1 (by rw [hb, e])))]
        exact k3
      · obtain ⟨x, hx, hr⟩ := k7 m d hm
        exact ⟨x, hx, RV.ext h (Nat.le_refl _) (hext _) hr⟩
  · have := h.nx i hi
    refine ⟨this.1, ?_⟩
    by_cases e : i = j
    · subst e; simp
    · rw [show (Sto.mk (upd s.ob j none) s.nx).ob i = s.ob i from upd_ne _ _ _ e]; exact this.2
theorem Tri.effAt [Inhabited GlobS] {N : Nat} {Y : YT} {id : Nat} {ops : Array Oper} {st : St} {Q : DExit → St → Prop} (k : Nat) (o : Oper) (ho : ops.toList[k]? = some o) (hk : (ops.toList.all fun o => noDefer o && o.dst.all fun t => decide (t < N)) = true) (hgd : o.guard = none)
    (h : dops P Y ops false (ops.toList.take k) st fun st1 => ESemW P st1.s o.op (ev st1.tm) fun d s' => dops P Y ops false (ops.toList.drop (k + 1)) ((st1.setS s').put o.dst d) (Q .normal)) : Tri P N Y (.region id ops false) st Q := by
  obtain ⟨hlt, e⟩ := List.getElem?_eq_some_iff.1 ho
  refine Tri.eff _ o _ ?_ hk hgd h
  rw [← e, ← List.drop_eq_getElem_cons hlt, List.take_append_drop]
theorem freeze_block {w : World} {b n : Nat} {cur : Array Value} {e : TypeId} (h : w.heap[b]? = some (.cells cur e (0, 0))) : (w.freeze ⟨b, n, none⟩ 1).heap[b]? = some (.cells cur e (n, n + 1)) := by
  unfold World.freeze
  rw [if_neg (by decide)]
  simp only [Array.getElem?_modify, if_true, h, Option.map_some]
  rfl
theorem freeze_other {w : World} {b n k : Nat} (hk : k ≠ b) : (w.freeze ⟨b, n, none⟩ 1).heap[k]? = w.heap[k]? := by
  unfold World.freeze
  rw [if_neg (by decide)]
  simp only [Array.getElem?_modify]
  rw [if_neg (fun e => hk e.symm)]
theorem esem_conv [Inhabited GlobS] {s : Sto} {ρ : Operand → DV} {K : DV → Sto → Prop} {x : Operand} {t e : TypeId} {id n : Nat} {ob : DObj} {l : List Value} (ht : P.underlying t = some (.slice e)) (he : P.underlying e = some (.int .u8)) (hdr : Drs = false)
    (hx : ρ x = .arr id n) (hob : s.ob id = some ob) (hm : Nat.beq ob.elem MAPT = false) (_hos : ob.sz = 1) (h0 : 0 < n) (hc : ob.cells = l.map .v) (hn : l.length = n)
    (hK : K (.lst 1 (l.map fun v => [.v v])) ⟨upd s.ob id none, s.nx⟩) : ESemW P s (.convert t t x) ρ K := by
  intro w0 F0 β w a hs hρ
  have hvx := hρ x
  rw [hx] at hvx
  rcases rv_arr hvx with ⟨b, c, hb, hlc, hxe⟩ | ⟨_, hz, _⟩
  case inr => omega
  rcases hs.obs id ob hob with g | ⟨b', c', cur, g1, g2, g3, g4, g5, g6, g7⟩
  · rw [g.1] at hb; cases hb
  rw [g1] at hb
  simp only [Option.some.injEq, Prod.mk.injEq] at hb
  obtain ⟨rfl, rfl⟩ := hb
  rw [blk_cells hm] at g3
  have hblk := freeze_block (n := cur.size) g3
  have hbel : BelowD b' w (w.freeze ⟨b', cur.size, none⟩ 1) := .of (Lib.below_freeze (Below.refl b' w) (p := ⟨b', cur.size, none⟩) (Nat.le_refl _) _) (fun e => by rw [hdr] at e; cases e)
  obtain ⟨k1, k2⟩ := SRel.spoilD hs id ob hob b' c' g1 (w.freeze ⟨b', cur.size, none⟩ 1) hbel (fun k hk => freeze_other hk)
  have hlen : (l.map fun v => [DV.v v]).length = n := by rw [List.length_map, hn]
  have hget : ∀ i v, l[i]? = some v → cur[i]? = some v ∧ Value.oneCell' v = true := fun i v hi => by
    obtain ⟨y, hy, hr⟩ := g7 i (.v v) (by rw [hc, List.getElem?_map, hi]; rfl)
    cases hr with
    | data h => cases h with
      | v _ h => exact ⟨hy, h⟩
  have hF0 : F0 b' := hs.own id b' c' (by rw [hob]; rfl) g1
  have hF : Fr w0 F0 ⟨upd s.ob id none, s.nx⟩ β b' := ⟨hF0, .inr ⟨g2, fun i c2 hi e => by
    have hne : i ≠ id := fun e2 => by subst e2; simp at hi
    have hi2 : (s.ob i).isSome = true := by simpa [upd_ne _ _ _ hne] using hi
    exact hne (hs.inj i id b' c2 c' hi2 (by rw [hob]; rfl) e g1)⟩⟩
  have hrd : RD (w.freeze ⟨b', cur.size, none⟩ 1) (Fr w0 F0 ⟨upd s.ob id none, s.nx⟩ β) (.lst 1 (l.map fun v => [DV.v v])) (.slice (some ⟨b', 0, none⟩) (l.map fun v => [DV.v v]).length c') := by
    refine .lst _ _ _ b' 0 c' (fun i _ => l.getD i undef) (fun _ => rfl) (fun h => by cases h) (by rw [hlen]; exact hlc) g5 (fun i cs hi => ?_) (fun i cs j d hi hj => ?_) (fun i cs j d hi hj => ?_)
    · rw [List.getElem?_map] at hi
      cases hv : l[i]? with
      | none => rw [hv] at hi; cases hi
      | some v => rw [hv] at hi; cases hi; rfl
    · rw [List.getElem?_map] at hi
      cases hv : l[i]? with
      | none => rw [hv] at hi; cases hi
      | some v =>
        rw [hv] at hi; cases hi
        rcases j with _ | j
        · refine ⟨?_, hF⟩
          rw [Nat.mul_one, Nat.add_zero, Nat.zero_add]
          simp only [World.cell?, hblk, List.getD_eq_getElem?_getD, hv, Option.getD_some]
          exact (hget i v hv).1
        · cases hj
    · rw [List.getElem?_map] at hi
      cases hv : l[i]? with
      | none => rw [hv] at hi; cases hi
      | some v =>
        rw [hv] at hi; cases hi
        rcases j with _ | j
        · cases hj
          simp only [List.getD_eq_getElem?_getD, hv, Option.getD_some]
          exact .v _ (hget i v hv).2
        · cases hj
  rw [hlen] at hrd
  have hsh : w.shape? b' = some (ob.elem, cur.size) := by simp [World.shape?, g3]
  refine ⟨.slice (some ⟨b', 0, none⟩) n c', _, _, _, β, fun o ho => ?_, hK, k1, k2 _, Nat.le_refl _, .data hrd⟩
  simp [execOp, ho, hxe, convert, run_underlying ht, run_underlying he, markStringish, hsh]
end Go.Dl
namespace Go.Dl
open Go Go.RowKit
theorem qsem_lstr {P : Program} {s : Sto} {src dst e : TypeId} {x : Operand} {ρ : Operand → DV} {tx : ByteArray} (hs : P.underlying src = some (.slice e)) (he : P.underlying e = some (.int .u8)) (hd : P.underlying dst = some .string)
    (wx : wok (ρ x)) (hx : Dl.str (ρ x) = .lst 1 ((bytesD tx).map fun d => [d])) (h0 : 0 < tx.size) : QSem P s (.convert src dst x) ρ (.v (.string tx)) := fun w0 F0 β w a hs' hρ => by
  refine ⟨.string tx, .data (.v _ rfl), fun op w' ho hk => ?_⟩
  have hv := rv_str _ wx (hρ x)
  rw [hx] at hv
  have hl : tx.data.toList.length = tx.size := Array.length_toList
  have hel : ((bytesD tx).map fun d => [d]).length = tx.size := by rw [List.length_map, bytesD_len]
  generalize hyv : a.eval x = yv at hv
  generalize hes : ((bytesD tx).map fun d => [d]) = es at hv
  cases hv with
  | data hv =>
    cases hv with
    | lst _ _ a2 b2 o2 c2 gg ha hn hc hmx hsz hcell hdd =>
      have hlen : es.length = tx.size := by rw [← hes, hel]
      have hne : es ≠ [] := fun e => by rw [e] at hlen; simp at hlen; omega
      have := run_convert_bytes_back (P := P) w' src dst e ⟨b2, o2, none⟩ c2 tx.data.toList hs he hd (fun j hj => by
        have h1 : es[j]? = some [.v (.int .u8 (tx.data.toList[j].toNat : Int))] := by
          rw [← hes, List.getElem?_map]
          have : (bytesD tx)[j]? = some (.v (.int .u8 (tx.data.toList[j].toNat : Int))) := by
            simp only [bytesD, Lib.strCells, List.map_map, List.getElem?_map, List.getElem?_eq_getElem hj]; rfl
          rw [this]; rfl
        obtain ⟨k1, k2⟩ := hcell j _ 0 _ h1 rfl
        have k3 := hdd j _ 0 _ h1 rfl
        have k4 : gg j 0 = .int .u8 (tx.data.toList[j].toNat : Int) := rv_v (RV.data (β := β) k3)
        rw [Nat.mul_one, Nat.add_zero, k4] at k1
        rw [Addr.add_lit, World.cell?_of_block (w := w) (a := ⟨b2, o2 + j, none⟩) (hk b2 (World.block_lt_of_cell? w _ k1) (.inl k2))]
        exact k1)
      rw [hl] at this
      rw [ha hne, hlen] at hyv
      simp only [execOp, ho, hyv, Sem.run_bind]
      rw [this]
      rfl
theorem dq_lstr {P : Program} {s : Sto} {src dst e : TypeId} {x : Operand} {ρ : Operand → DV} {g : Bool} {K : DV → Prop} (tx : ByteArray) (hs : P.underlying src = some (.slice e)) (he : P.underlying e = some (.int .u8)) (hd : P.underlying dst = some .string)
    (wx : g = true → wok (ρ x)) (hx : Dl.str (ρ x) = .lst 1 ((bytesD tx).map fun d => [d])) (h0 : 0 < tx.size) (hK : K (.v (.string tx))) : ∃ d, (g = true → QSem P s (.convert src dst x) ρ d) ∧ K d :=
  ⟨_, fun hg => qsem_lstr hs he hd (wx hg) hx h0, hK⟩
end Go.Dl
