/-
  The data-level logic, part 10: code, its soundness, calls that are entered.
-/
import Derived.Test.YtopdllcpeaflaaaDl9
namespace Go.Dl
open Go Go.RowKit

inductive DExit where
  | normal
  | exit (id : Nat)
  | goto (l : Nat)
  | ret

def DExit.real : DExit → Exit
  | .normal => .normal
  | .exit id => .exit id
  | .goto l => .goto l
  | .ret => .ret

/-- 'c', begun in a state that 'st' describes, ends in a state of which 'Q' holds. -/
def Tri (P : Program) (N : Nat) (c : Code) (st : St) (Q : DExit → St → Prop) : Prop :=
  ∀ (G : Org) (_ : G.N = N) (β : Beta) (a : Act) (w : World) (R : Exit → Act → World → Prop), Rel G st β a w → (∀ e st' β' a' w', Q e st' → Rel G st' β' a' w' → R e.real a' w') → c.wp P R a w

/-- Types of one plain cell. -/
def scalT (P : Program) (t : TypeId) : Bool := match P.underlying t with | some .bool | some (.int _) | some .string => true | _ => false
def hasEff (P : Program) (o : Oper) : Bool :=
  match o.op with
  | .alloc _ | .box .. | .buildSlice .. | .store .. => true
  | .call c => (match c.callee with | .builtin .append => true | .value _ => !scalT P o.type | _ => false)
  | _ => false
def opsOk (P : Program) (N : Nat) (ops : Array Oper) (draw : Bool) : Bool :=
  ops.toList.all (fun o => o.dst.all fun t => decide (t < N)) && (!draw || ops.toList.any (hasEff P) || (P.follows .mixedOrders && Region.lexB .any ops))

/-- Asked once of a body: its slots are the frame's; its regions that draw their order may be walked in the text's order. -/
def codeOk (P : Program) (N : Nat) : Code → Bool
  | .region _ ops draw => opsOk P N ops draw
  | .seq x y => codeOk P N x && codeOk P N y
  | .cond _ x y => codeOk P N x && codeOk P N y
  | .block _ c => codeOk P N c
  | .loop c => codeOk P N c
  | .scope c => codeOk P N c
  | .rangeFunc _ _ x y => codeOk P N x && codeOk P N y
  | _ => true

def dthen (N : St → Prop) (Q : DExit → St → Prop) : DExit → St → Prop
  | .normal, st => N st
  | e, st => Q e st
def dblock (id : Nat) (Q : DExit → St → Prop) : DExit → St → Prop
  | .exit j, st => if j = id then Q .normal st else Q (.exit j) st
  | e, st => Q e st

noncomputable def dcode (P : Program) (N : Nat) (c : Code) : St → (DExit → St → Prop) → Prop :=
  Code.rec (motive := fun _ => St → (DExit → St → Prop) → Prop)
    (fun st Q => Q .normal st)
    (fun id ops draw st Q => match draw && ops.toList.any (hasEff P) with
      | true => Tri P N (.region id ops draw) st Q
      | false => dops P ops draw ops.toList st (Q .normal))
    (fun _ _ x y st Q => x st (dthen (fun st' => y st' Q) Q))
    (fun c _ _ x y st Q => evg true (ev st.tm c) fun
      | .v (.bool b) => (b = true → x st Q) ∧ (b = false → y st Q)
      | _ => False)
    (fun id _ c st Q => c st (dblock id Q))
    (fun c _ st Q => Tri P N (.loop c) st Q)
    (fun f ps x y _ _ st Q => Tri P N (.rangeFunc f ps x y) st Q)
    (fun id st Q => Q (.exit id) st)
    (fun c _ st Q => Tri P N (.scope c) st Q)
    (fun _ st Q => Q .normal st)
    (fun l st Q => Q (.goto l) st)
    (fun st Q => Q .ret st)
    (fun why st Q => Tri P N (.refuse why) st Q) c

theorem dcode_sound {P : Program} {N : Nat} : (c : Code) → codeOk P N c = true → {st : St} → {Q : DExit → St → Prop} → dcode P N c st Q → Tri P N c st Q
  | .skip, _, st, Q, h => fun G hN β a w R hr hR => wp_skip (hR _ _ _ _ _ h hr)
  | .region id ops draw, hk, st, Q, h2 => by
    have h2 : (match draw && ops.toList.any (hasEff P) with
      | true => Tri P N (.region id ops draw) st Q
      | false => dops P ops draw ops.toList st (Q .normal)) := h2
    split at h2
    · exact h2
    · rename_i he
      intro G hN β a w R hr hR
      simp only [codeOk, opsOk, Bool.and_eq_true] at hk
      obtain ⟨hk1, hk2⟩ := hk
      have hd : ∀ o ∈ ops.toList, (o.dst.all fun t => decide (t < G.N)) = true := by rw [hN]; exact List.all_eq_true.1 hk1
      cases draw with
      | false => exact wp_region_list (dops_sound _ hd h2 hr fun st' β' a' w' hQ hr' => hR _ _ _ _ _ hQ hr')
      | true =>
        simp only [Bool.true_and] at he
        rw [he] at hk2
        simp only [Bool.not_true, Bool.false_or, Bool.and_eq_true] at hk2
        obtain ⟨h3, h4⟩ := hk2
        have hb : Below w.heap.size w w.drew := ⟨rfl, rfl, rfl, Nat.le_refl _, fun _ _ => rfl⟩
        have hr' := hr.below hb
        exact wp_region_quiet (C := fun w' => Below w.drew.heap.size w.drew w') h3 h4 (.refl _ _) (dops_quiet (w := w.drew) _ hd h2 hr' fun st' a' hQ hr'' w' hw' => hR _ _ _ _ _ hQ (hr''.below hw'))
  | .seq x y, hk, st, Q, h => fun G hN β a w R hr hR => wp_seq (dcode_sound x (Bool.and_eq_true_iff.1 hk).1 h G hN β a w _ hr fun e st' β' a' w' hQ hr' => by
    cases e with
    | normal => exact dcode_sound y (Bool.and_eq_true_iff.1 hk).2 hQ G hN β' a' w' R hr' hR
    | exit id => exact hR _ _ _ _ _ hQ hr'
    | goto l => exact hR _ _ _ _ _ hQ hr'
    | ret => exact hR _ _ _ _ _ hQ hr')
  | .cond c x y, hk, st, Q, h => fun G hN β a w R hr hR => by
    obtain ⟨d, h, hd⟩ := evg_sound _ h
    split at h
    · rename_i b
      have e := rv_v (hd rfl _ _ _ _ (hr.ev c))
      refine wp_cond e ?_
      cases b with
      | true => exact dcode_sound x (Bool.and_eq_true_iff.1 hk).1 (h.1 rfl) G hN β a w R hr hR
      | false => exact dcode_sound y (Bool.and_eq_true_iff.1 hk).2 (h.2 rfl) G hN β a w R hr hR
    · exact h.elim
  | .block id c, hk, st, Q, h => fun G hN β a w R hr hR => wp_block (dcode_sound c hk h G hN β a w _ hr fun e st' β' a' w' hQ hr' => by
    cases e with
    | normal => exact hR .normal _ _ _ _ hQ hr'
    | exit j =>
      simp only [DExit.real, Exit.inBlock]
      simp only [dblock] at hQ
      split
      · rename_i e; rw [if_pos e] at hQ; exact hR .normal _ _ _ _ hQ hr'
      · rename_i e; rw [if_neg e] at hQ; exact hR (.exit j) _ _ _ _ hQ hr'
    | goto l => exact hR (.goto l) _ _ _ _ hQ hr'
    | ret => exact hR .ret _ _ _ _ hQ hr')
  | .exit id, _, st, Q, h => fun G hN β a w R hr hR => wp_exit (hR (.exit id) _ _ _ _ h hr)
  | .goto l, _, st, Q, h => fun G hN β a w R hr hR => wp_goto (hR (.goto l) _ _ _ _ h hr)
  | .label l, _, st, Q, h => fun G hN β a w R hr hR => wp_label (hR _ _ _ _ _ h hr)
  | .ret, _, st, Q, h => fun G hN β a w R hr hR => wp_ret (hR .ret _ _ _ _ h hr)
  | .loop b, _, st, Q, h => h
  | .rangeFunc .., _, st, Q, h => h
  | .scope b, _, st, Q, h => h
  | .refuse _, _, st, Q, h => h

theorem Tri.mono {P : Program} {N : Nat} {c : Code} {st : St} {Q Q' : DExit → St → Prop} (h : Tri P N c st Q) (hq : ∀ e st, Q e st → Q' e st) : Tri P N c st Q' :=
  fun G hN β a w R hr hR => h G hN β a w R hr fun e st' β' a' w' hQ => hR e st' β' a' w' (hq _ _ hQ)

/-! ### A body, entered -/

def entryTm : Nat → List DV → (Nat → DV) → (Nat → DV)
  | _, [], f => f
  | k, d :: ds, f => entryTm (k + 1) ds (upd f k d)

theorem entryTm_get (ds : List DV) : ∀ (k : Nat) (f : Nat → DV) (t : Nat), entryTm k ds f t = if h : k ≤ t ∧ t - k < ds.length then ds[t - k]'h.2 else f t := by
  induction ds with
  | nil => intro k f t; simp [entryTm]
  | cons d ds ih =>
    intro k f t
    rw [entryTm, ih]
    by_cases h1 : t = k
    · subst h1
      rw [dif_neg (by omega)]
      simp
    · by_cases h2 : k ≤ t ∧ t - k < ds.length + 1
      · have h3 : k + 1 ≤ t ∧ t - (k + 1) < ds.length := by omega
        rw [dif_pos h3, dif_pos (by simpa using h2)]
        have : t - k = (t - (k + 1)) + 1 := by omega
        simp [this]
      · have h3 : ¬ (k + 1 ≤ t ∧ t - (k + 1) < ds.length) := by omega
        rw [dif_neg h3, dif_neg (by simpa using h2), upd_ne _ _ _ h1]

noncomputable def dress (P : Program) (rs : List ResultVar) (st : St) : (List DV → Prop) → Prop :=
  List.rec (motive := fun _ => (List DV → Prop) → Prop) (fun K => K [])
    (fun r _ next K => match r with
      | .tmp t => next fun ds => K (st.tm t :: ds)
      | .cell t T => (match st.tm t with
        | .ref id off => (match st.s.ob id with | some o => dload P T o.cells off true fun d => next fun ds => K (d :: ds) | none => False)
        | _ => False)) rs

/-- What a body hands back. -/
def dout (K : DV → Sto → Prop) (s : Sto) : List DV → Prop
  | [d] => K d s
  | ds => K (.tup ds) s
noncomputable def dend (P : Program) (rs : List ResultVar) (K : DV → Sto → Prop) : DExit → St → Prop
  | .normal, st | .ret, st => dress P rs st (dout K st.s)
  | _, _ => False

def resF (tmps : Array Value) : ResultVar → Sem Value
  | .tmp t => pure (tmps.getD t undef)
  | .cell b t => do loadVar t (← asAddr (tmps.getD b undef))
theorem results_eq (fn : Func) (tmps : Array Value) : results fn tmps = (fn.results.mapM (resF tmps)) >>= fun vs => pure (if h : vs.size = 1 then vs[0] else .tuple vs) := rfl

theorem run_results {P : Program} {rs : List ResultVar} {G : Org} {st : St} {β : Beta} {a : Act} {w : World} (hr : Rel G st β a w) : ∀ {K : List DV → Prop}, dress P rs st K →
    ∃ ds xs, K ds ∧ Pw w (Fr G.w0 G.F0 st.s β) β ds xs ∧ (rs.mapM (resF a.tmps)).run P w = .ok xs w := by
  induction rs with
  | nil => intro K h; exact ⟨[], [], h, .nil, by simp⟩
  | cons r rs ih =>
    intro K h
    cases r with
    | tmp t =>
      obtain ⟨ds, xs, h1, h2, h3⟩ := ih h
      exact ⟨_, _, h1, h2.cons (hr.tm t), by simp only [List.mapM_cons, resF, Sem.run_bind, Sem.run_pure, Result.andThen_ok, h3]⟩
    | cell t T =>
      simp only [dress] at h
      split at h
      · rename_i id off htm
        split at h
        · rename_i o hob
          obtain ⟨d, h1, h2⟩ := dload_sound h
          obtain ⟨ds, xs, h3, h4, h5⟩ := ih h1
          have ht := hr.tm t
          rw [htm] at ht
          obtain ⟨b, c, hb, he⟩ := rv_ref ht
          rcases hr.srel.obs id o hob with g | ⟨b', c', cur, g1, g2, g3, g4, g5, g6, g7⟩
          · rw [g.1] at hb; cases hb
          rw [g1] at hb
          simp only [Option.some.injEq, Prod.mk.injEq] at hb
          obtain ⟨rfl, rfl⟩ := hb
          obtain ⟨v, hv, hrun⟩ := h2 rfl w (Fr G.w0 G.F0 st.s β) β b' 0 cur.toList (fun j dj hj => by
            obtain ⟨y, hy, hry⟩ := g7 j dj hj
            exact ⟨y, by simpa using hy, by simpa [World.cell?, g3] using hy, hry⟩)
          have := hrun w (fun _ => rfl)
          simp only [Nat.zero_add] at this
          have hA : (asAddr (a.tmps.getD t undef)).run P w = .ok ⟨b', off, none⟩ w := by rw [he]; rfl
          exact ⟨_, _, h3, h4.cons hv, by simp only [List.mapM_cons, resF, Sem.run_bind, hA, Sem.run_pure, Result.andThen_ok, this, h5]⟩
        · exact h.elim
      · exact h.elim

theorem run_out {P : Program} {fn : Func} {G : Org} {st : St} {β : Beta} {a : Act} {w : World} (hr : Rel G st β a w) {K : DV → Sto → Prop} (h : dress P fn.results.toList st (dout K st.s)) :
    ∃ v d, (results fn a.tmps).run P w = .ok v w ∧ K d st.s ∧ RV w (Fr G.w0 G.F0 st.s β) β d v := by
  obtain ⟨ds, xs, h1, h2, h3⟩ := run_results hr h
  have hrun : (results fn a.tmps).run P w = .ok (if h : xs.toArray.size = 1 then xs.toArray[0] else .tuple xs.toArray) w := by
    have : (fn.results.mapM (resF a.tmps)).run P w = .ok xs.toArray w := by
      rw [Array.mapM_eq_mapM_toList, Sem.run_map, h3]
      rfl
    rw [results_eq, Sem.run_bind, this]
    rfl
  match ds, xs, h2, h1, hrun with
  | [d], [x], h2, h1, hrun => exact ⟨_, d, hrun, h1, by simpa using h2.2 0 d x rfl rfl⟩
  | [], xs, h2, h1, hrun =>
    have : xs = [] := List.length_eq_zero_iff.1 h2.1.symm
    subst this
    exact ⟨_, .tup [], hrun, h1, .tup [] [] rfl h2.2⟩
  | d :: d' :: ds, xs, h2, h1, hrun =>
    refine ⟨_, .tup (d :: d' :: ds), hrun, h1, ?_⟩
    have : xs.toArray.size ≠ 1 := by have := h2.1; simp at this ⊢; omega
    rw [dif_neg this]
    exact .tup _ _ h2.1 h2.2

theorem SCall.run {P : Program} {f : FuncId} {fn : Func} {c : Code} {args : List DV} {s : Sto} {K : DV → Sto → Prop} (hf : P.funcs[f]? = some fn) (hb : fn.body = some c) (hn : args.length ≤ fn.ntmps) (hk : codeOk P fn.ntmps c = true)
    (h : dcode P fn.ntmps c ⟨s.nx, entryTm 0 args (fun _ => .dead), s⟩ (dend P fn.results.toList K)) : SCall P f args s K := by
  intro w0 F0 β w vals hs hx
  refine calls_of_wp hf hb ?_
  let G : Org := ⟨fn.ntmps, w0, F0, s.nx, s, β, w, nX, fun _ _ h => h⟩
  have hvl : vals.length = args.length := hx.1.symm
  have hr : Rel G ⟨s.nx, entryTm 0 args (fun _ => .dead), s⟩ β { tmps := vals.toArray ++ Array.replicate (fn.ntmps - vals.toArray.size) undef, defers := [] } w := by
    refine ⟨hs, .refl, rfl, Nat.le_refl _, fun t => ?_, by simp [G]; omega, rfl⟩
    simp only [entryTm_get, Nat.zero_le, Nat.sub_zero, true_and]
    split
    · rename_i ht
      have ht' : t < vals.length := by omega
      rw [Array.getD_eq_getD_getElem?, Array.getElem?_append_left (by simpa using ht')]
      simp only [List.getElem?_toArray, List.getElem?_eq_getElem ht', Option.getD_some]
      exact hx.2 t _ _ (List.getElem?_eq_getElem ht) (List.getElem?_eq_getElem ht')
    · exact .dead _
  refine dcode_sound c hk h G rfl β _ w _ hr fun e st' β' a' w' hQ hr' => ?_
  have fin : dress P fn.results.toList st' (dout K st'.s) → a'.defers = [] ∧ ∃ v, (results fn a'.tmps).run P w' = .ok v w' ∧
      ∃ v_1 r s'_1 β', Ending.returned v = Ending.returned v_1 ∧ K r s'_1 ∧ SRel w0 F0 s'_1 β' w' ∧ Ext s.nx w0 nX s β w s'_1 β' w' ∧ s.nx ≤ s'_1.nx ∧ RV w' (Fr w0 F0 s'_1 β') β' r v_1 := fun h => by
    obtain ⟨v, d, h1, h2, h3⟩ := run_out hr' h
    exact ⟨hr'.df, v, h1, v, d, st'.s, β', rfl, h2, hr'.srel, hr'.ext, hr'.nxb, h3⟩
  cases e with
  | normal => exact fin hQ
  | ret => exact fin hQ
  | exit id => exact hQ.elim
  | goto l => exact hQ.elim

def Sto.empty : Sto := ⟨fun _ => none, 0⟩

theorem SRel.empty (w : World) (F : Nat → Prop) (hF : ∀ b, w.heap.size ≤ b → F b) : SRel w F .empty (fun _ => none) w :=
  ⟨.refl _ _, fun i o h => (by cases h), fun i j b c c' h => (by cases h), fun _ _ => ⟨rfl, rfl⟩, hF, fun i b c h => (by cases h)⟩

theorem DFun.of_scall {P : Program} {f : FuncId} {args : List DV} {Q : DV → Sto → Prop} (h : SCall P f args .empty Q) : DFun P f args Q := fun w F vals hF hx =>
  (h w F (fun _ => none) w vals (.empty w F hF) ⟨hx.1, fun i d y h1 h2 => (hx.2 i d y h1 h2).mono (fun _ _ h => h) (fun _ hb hF => ⟨⟨hF, .inl hb⟩, rfl⟩)⟩).mono
    fun _ _ ⟨v, r, s', β', he, hQ, k1, _, _, k4⟩ => ⟨v, r, s', β', he, hQ, k1, k4⟩

theorem DFun.run {P : Program} {f : FuncId} {fn : Func} {c : Code} {args : List DV} {Q : DV → Sto → Prop} (hf : P.funcs[f]? = some fn) (hb : fn.body = some c) (hn : args.length ≤ fn.ntmps) (hk : codeOk P fn.ntmps c = true)
    (h : dcode P fn.ntmps c ⟨0, entryTm 0 args (fun _ => .dead), .empty⟩ (dend P fn.results.toList Q)) : DFun P f args Q :=
  .of_scall (.run hf hb hn hk h)

/-! ### Data in, data out -/

def noId1 : DV → Bool
  | .v _ | .lst .. | .lref .. | .dead => true
  | .clo _ [] [] => true
  | _ => false
def noId2 : DV → Bool
  | .agg cs => cs.all noId1
  | d => noId1 d
def noIds : DV → Bool
  | .agg cs => cs.all noId1
  | .tup cs => cs.all noId2
  | d => noId1 d

theorem rv_noId1 {w w' : World} {F F' : Nat → Prop} {β β' : Beta} {d : DV} {x : Value} (h : RV w F β d x) (hd : noId1 d = true) (hw : ∀ b, b < w.heap.size → F b → F' b ∧ w'.heap[b]? = w.heap[b]?) : RV w' F' β' d x := by
  cases h with
  | data h => exact .data (h.mono hw)
  | lref sz es i off b o cap h hi => exact .lref sz es i off b o cap (h.mono hw) hi
  | dead => exact .dead _
  | clo fn ds es xs ys hl hl' h h' =>
    cases ds with
    | cons => cases hd
    | nil =>
      cases es with
      | cons => cases hd
      | nil =>
        exact .clo _ [] [] xs ys hl hl' (fun i d x h => by simp at h) (fun i d x h => by simp at h)
  | _ => cases hd

theorem rv_noId2 {w w' : World} {F F' : Nat → Prop} {β β' : Beta} {d : DV} {x : Value} (h : RV w F β d x) (hd : noId2 d = true) (hw : ∀ b, b < w.heap.size → F b → F' b ∧ w'.heap[b]? = w.heap[b]?) : RV w' F' β' d x := by
  unfold noId2 at hd
  split at hd
  · obtain ⟨xs, rfl, hl, hp⟩ := rv_agg h
    exact .agg _ _ hl fun i d x h1 h2 => rv_noId1 (hp i d x h1 h2) (List.all_eq_true.1 hd d (List.mem_of_getElem? h1)) hw
  · exact rv_noId1 h hd hw
theorem rv_noIds {w w' : World} {F F' : Nat → Prop} {β β' : Beta} {d : DV} {x : Value} (h : RV w F β d x) (hd : noIds d = true) (hw : ∀ b, b < w.heap.size → F b → F' b ∧ w'.heap[b]? = w.heap[b]?) : RV w' F' β' d x := by
  unfold noIds at hd
  split at hd
  · obtain ⟨xs, rfl, hl, hp⟩ := rv_agg h
    exact .agg _ _ hl fun i d x h1 h2 => rv_noId1 (hp i d x h1 h2) (List.all_eq_true.1 hd d (List.mem_of_getElem? h1)) hw
  · obtain ⟨xs, rfl, hl, hp⟩ := rv_tup h
    exact .tup _ _ hl fun i d x h1 h2 => rv_noId2 (hp i d x h1 h2) (List.all_eq_true.1 hd d (List.mem_of_getElem? h1)) hw
  · exact rv_noId1 h hd hw

theorem SRel.frUp {w0 w : World} {F0 : Nat → Prop} {s : Sto} {β : Beta} (hs : SRel w0 F0 s β w) : ∀ b, w.heap.size ≤ b → Fr w0 F0 s β b := fun b hb => ⟨hs.up b hb, .inr ⟨Nat.le_trans hs.below.size hb, fun i c hi hβ => by
  obtain ⟨o, ho⟩ := Option.isSome_iff_exists.1 hi
  rcases hs.obs i o ho with g | ⟨b', c', cur, g1, g2, g3, _⟩
  · rw [g.1] at hβ; cases hβ
  · rw [g1] at hβ
    simp only [Option.some.injEq, Prod.mk.injEq] at hβ
    have := (Array.getElem?_eq_some_iff.1 g3).1
    omega⟩⟩

/-- A call with data whose result is data. -/
theorem SCall.data {P : Program} {f : FuncId} {args : List DV} {s : Sto} {K : DV → Sto → Prop} {r : DV} (h : DPure P f args r) (hargs : args.all noIds = true) (hr : noIds r = true) (hK : K r s) : SCall P f args s K := by
  intro w0 F0 β w vals hs hx
  refine (h w (Fr w0 F0 s β) vals hs.frUp ⟨hx.1, fun i d y h1 h2 => rv_noIds (hx.2 i d y h1 h2) (List.all_eq_true.1 hargs d (List.mem_of_getElem? h1)) (fun b _ hF => ⟨hF, rfl⟩)⟩).mono fun e w' ⟨v, r', s', β', he, hq, hs', hv⟩ => ?_
  subst hq
  obtain ⟨k1, k2⟩ := hs.below' hs'.below
  refine ⟨v, _, s, β, he, hK, k1, k2 _, Nat.le_refl _, rv_noIds hv hr fun b hb hF => ⟨?_, rfl⟩⟩
  exact hF.1

end Go.Dl
