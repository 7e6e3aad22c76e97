/-
  The data-level logic, part 14: slices and nil; owned slices given up, laid out; new objects of a callee.
-/
import Derived.Test.YtagfmppjlfhmeaaGreatDoorDp10
import Derived.OrdersHeld
import Derived.Deep.RegionHeld3
import Derived.ScopeJumps
import Derived.ProofKit
import Derived.OpenShut
import Derived.ChangeOld
import Derived.SizedLaws
import Derived.DataReads

namespace Go.Dl
open Go Go.RowKit
theorem run_eqNil {P : Program} {t e : TypeId} (ht : P.underlying t = some (.slice e)) (a : Option Addr) (n c : Nat) (x y : Operand) (w : World) :
    ((do eqGuard .eql t x y (.slice a n c) (.slice none 0 0); binOp .eql t (.slice a n c) (.slice none 0 0)) : Sem Value).run P w = .ok (.bool a.isNone) w ∧
    ((do eqGuard .neq t x y (.slice a n c) (.slice none 0 0); binOp .neq t (.slice a n c) (.slice none 0 0)) : Sem Value).run P w = .ok (.bool (!a.isNone)) w := by
  have h : (Op.equal t (.slice a n c) (.slice none 0 0)).run P w = .ok a.isNone w := by
    show (Op.equalIn (9999 + 1) t (.slice a n c) (.slice none 0 0)).run P w = _
    generalize 9999 = k
    cases a <;> simp [Op.equalIn, run_underlying ht]
  constructor <;> simp [eqGuard, binOp, h]
section
variable {P : Program} {s : Sto} {t : TypeId} {x y : Operand} {yt : TypeId} {ρ : Operand → DV} {g : Bool} {K : DV → Prop}
def slT (P : Program) (t : TypeId) : Bool := match P.underlying t with | some (.slice _) => true | _ => false
theorem slT_some (h : slT P t = true) : ∃ e, P.underlying t = some (.slice e) := by
  unfold slT at h
  split at h
  · rename_i e he; exact ⟨e, he⟩
  · cases h
theorem qsem_nil {b : Bool} (ht : slT P t = true) (hx : ∀ (w0 : World) (F0 : Nat → Prop) (β : Beta) (w : World) (v : Value), ObsF w0 F0 s β w → RV w F0 β (ρ x) v → ∃ a n c, v = .slice a n c ∧ a.isNone = b)
    (wy : wok (ρ y)) (hy : str (ρ y) = .v (.slice none 0 0)) : QSem P s (.binOp .eql t x y yt) ρ (.v (.bool b)) ∧ QSem P s (.binOp .neq t x y yt) ρ (.v (.bool (!b))) := by
  obtain ⟨e, he⟩ := slT_some ht
  constructor <;> intro w0 F0 β w ac hs hρ <;>
  · obtain ⟨a, n, c, e1, e2⟩ := hx w0 F0 β w _ hs (hρ x)
    have h2 := rv_str _ wy (hρ y)
    rw [hy] at h2
    have e3 := rv_v h2
    refine ⟨_, .data (.v _ rfl), fun o w' ho _ => ?_⟩
    have k := run_eqNil he a n c x y w'
    simp only [execOp, ho, e1, e3]
    first
      | (have k := k.1; rw [e2] at k; simp only [Sem.run_bind] at k ⊢; rw [k]; simp)
      | (have k := k.2; rw [e2] at k; simp only [Sem.run_bind] at k ⊢; rw [k]; simp)
theorem nil_of_v {a : Option Addr} {n c : Nat} (wx : wok (ρ x)) (hx : str (ρ x) = .v (.slice a n c)) (w0 : World) (F0 : Nat → Prop) (β : Beta) (w : World) (v : Value) (_ : ObsF w0 F0 s β w) (h : RV w F0 β (ρ x) v) :
    ∃ a' n c, v = .slice a' n c ∧ a'.isNone = a.isNone := by
  have h1 := rv_str _ wx h
  rw [hx] at h1
  exact ⟨_, _, _, rv_v h1, rfl⟩
theorem nil_of_lst {sz : Nat} {es : List (List DV)} (hne : es ≠ []) (wx : wok (ρ x)) (hx : str (ρ x) = .lst sz es) (w0 : World) (F0 : Nat → Prop) (β : Beta) (w : World) (v : Value) (_ : ObsF w0 F0 s β w) (h : RV w F0 β (ρ x) v) :
    ∃ a' n c, v = .slice a' n c ∧ a'.isNone = false := by
  have h1 := rv_str _ wx h
  rw [hx] at h1
  cases h1 with
  | data h =>
    cases h with
    | lst _ _ a b off cap g h0 => exact ⟨_, _, _, rfl, by rw [h0 hne]; rfl⟩
theorem dq_nilV {a : Option Addr} {n c : Nat} (ht : slT P t = true) (wx : g = true → wok (ρ x)) (hx : str (ρ x) = .v (.slice a n c)) (wy : g = true → wok (ρ y)) (hy : str (ρ y) = .v (.slice none 0 0)) (hk : K (.v (.bool a.isNone))) :
    ∃ d, (g = true → QSem P s (.binOp .eql t x y yt) ρ d) ∧ K d := ⟨_, fun hg => (qsem_nil ht (nil_of_v (wx hg) hx) (wy hg) hy).1, hk⟩
theorem dq_nilL {sz : Nat} {es : List (List DV)} (ht : slT P t = true) (hne : g = true → es ≠ []) (wx : g = true → wok (ρ x)) (hx : str (ρ x) = .lst sz es) (wy : g = true → wok (ρ y)) (hy : str (ρ y) = .v (.slice none 0 0)) (hk : K (.v (.bool false))) :
    ∃ d, (g = true → QSem P s (.binOp .eql t x y yt) ρ d) ∧ K d := ⟨_, fun hg => (qsem_nil ht (nil_of_lst (hne hg) (wx hg) hx) (wy hg) hy).1, hk⟩
end
theorem chunks_flatten (sz : Nat) (es : List (List DV)) (h : ∀ r ∈ es, r.length = sz) (rest : List DV) : chunks sz es.length (es.flatten ++ rest) = es := by
  unfold chunks
  induction es generalizing rest with
  | nil => rfl
  | cons r es ih =>
    have hr := h r (List.mem_cons_self ..)
    have := ih (fun r hr => h r (List.mem_cons_of_mem _ hr)) rest
    rw [List.length_cons, List.range_succ_eq_map, List.map_cons, List.map_map]
    congr 1
    · simp [← hr]
    · refine Eq.trans (List.map_congr_left fun i _ => ?_) this
      simp only [Function.comp, List.flatten_cons, List.append_assoc, Nat.succ_eq_add_one, Nat.add_mul, Nat.one_mul]
      rw [Nat.add_comm, ← hr, List.drop_length_add_append]
theorem DW.pubE {ρ : Nat → Option Nat} {s : Sto} {pub : Nat → Prop} {id len sz : Nat} {o : DObj} {es : List (List DV)} (hob : s.ob id = some o) (hsz : o.sz = sz) (hz : 0 < sz) (hp : pub id) (hl : es.length = len) (hr : ∀ r ∈ es, r.length = sz ∧ r.all isData1 = true)
    (hc : o.cells = es.flatten) : DW ρ s pub (.arr id len) (.lst sz es) := by
  subst hsz hl
  have h1 : chunks o.sz es.length o.cells = es := by rw [hc]; have := chunks_flatten o.sz es (fun r h => (hr r h).1) []; simpa using this
  have h2 : o.cells.length = es.length * o.sz := by
    rw [hc]
    clear h1 hc hob
    induction es with
    | nil => simp
    | cons r es ih =>
      simp only [List.flatten_cons, List.length_append, List.length_cons, Nat.succ_mul]
      rw [ih (fun r h => hr r (List.mem_cons_of_mem _ h)), (hr r (List.mem_cons_self ..)).1]; omega
  have h3 : o.cells.all isData1 = true := by
    rw [hc]
    simp only [List.all_eq_true, List.mem_flatten]
    intro d ⟨r, h1, h2⟩
    exact List.all_eq_true.1 (hr r h1).2 d h2
  have := DW.pub (ρ := ρ) (s := s) (pub := pub) id es.length o hob hp (by omega) h3 hz
  rw [h1] at this
  exact this
end Go.Dl

namespace Go.Dl
open Go Go.RowKit
def Sto.hide (s : Sto) (T : List Nat) : Sto := ⟨fun i => if T.contains i = true then none else s.ob i, s.nx⟩
def upo (tv : Nat → DV) (dst : Option Tmp) (d : DV) : Nat → DV := match dst with | some t => upd tv t d | none => tv
def vis1 : DV → DV
  | .v x => .v x
  | _ => .dead
def vis2 : DV → DV
  | .v x => .v x
  | .agg cs => .agg (cs.map vis1)
  | _ => .dead
def visD : DV → DV
  | .v x => .v x
  | .when b (.v x) => .when b (.v x)
  | .agg cs => .agg (cs.map vis1)
  | .tup cs => .tup (cs.map vis2)
  | _ => .dead
theorem rv_vis1 {w w' : World} {F F' : Nat → Prop} {β β' : Beta} {d : DV} {x : Value} (h : RV w F β d x) : RV w' F' β' (vis1 d) x := by
  unfold vis1
  split
  · cases h with
    | data h => cases h with | v _ h => exact .data (.v _ h)
  · exact .dead _
theorem rv_visAgg {w w' : World} {F F' : Nat → Prop} {β β' : Beta} {cs : List DV} {x : Value} (h : RV w F β (.agg cs) x) : RV w' F' β' (.agg (cs.map vis1)) x := by
  obtain ⟨xs, rfl, hl, hp⟩ := rv_agg h
  refine .agg _ _ (by simpa using hl) fun i d y h1 h2 => ?_
  simp only [List.getElem?_map, Option.map_eq_some_iff] at h1
  obtain ⟨c, hc, rfl⟩ := h1
  exact rv_vis1 (hp i c y hc h2)
theorem rv_vis2 {w w' : World} {F F' : Nat → Prop} {β β' : Beta} {d : DV} {x : Value} (h : RV w F β d x) : RV w' F' β' (vis2 d) x := by
  unfold vis2
  split
  · cases h with
    | data h => cases h with | v _ h => exact .data (.v _ h)
  · exact rv_visAgg h
  · exact .dead _
theorem rv_visD {w w' : World} {F F' : Nat → Prop} {β β' : Beta} {d : DV} {x : Value} (h : RV w F β d x) : RV w' F' β' (visD d) x := by
  unfold visD
  split
  · cases h with
    | data h => cases h with | v _ h => exact .data (.v _ h)
  · cases h with
    | data h => cases h
    | whn _ _ _ h1 h2 =>
      refine .whn _ _ _ (fun e => ?_) h2
      cases h1 e with
      | data h => cases h with | v _ h => exact .data (.v _ h)
  · exact rv_visAgg h
  · obtain ⟨xs, rfl, hl, hp⟩ := rv_tup h
    refine .tup _ _ (by simpa using hl) fun i d y h1 h2 => ?_
    simp only [List.getElem?_map, Option.map_eq_some_iff] at h1
    obtain ⟨c, hc, rfl⟩ := h1
    exact rv_vis2 (hp i c y hc h2)
  · exact .dead _
def DSem [Inhabited GlobS] (P : Program) (f : FuncId) (args : List DV) (s : Sto) (r : DV) : Prop :=
  ∀ (w0 : World) (F0 : Nat → Prop) (β : Beta) (w : World) (vals : List Value), SRel w0 F0 s β w → Pw w (Fr w0 F0 s β) β args vals →
    Calls P f vals.toArray w fun e w' => ∃ v, e = .returned v ∧ BelowD w.heap.size w w' ∧ RV w' (Fr w0 F0 s β) β r v
def MCall [Inhabited GlobS] (P : Program) (f : FuncId) (args : List DV) (s : Sto) (g : Bool) (K : DV → Prop) : Prop := ∃ r, (g = true → DSem P f args s r) ∧ K r
noncomputable def meff [Inhabited GlobS] (P : Program) (T : List Nat) (o : Oper) (g : Bool) (st : St) (K : St → Prop) : Prop :=
  (g = true → (etgt (ev st.tm) o.op).all (fun i => T.contains i && (st.s.ob i).isSome) = true ∧ de P st.s (ev st.tm) o.op fun d s' => K ((st.setS s').put o.dst d)) ∧ (g = false → K (st.put o.dst .dead))
structure RM [Inhabited GlobS] (G : Org) (st0 : St) (β0 : Beta) (ws : World) (T : List Nat) (st : St) (tv : Nat → DV) (β : Beta) (a : Act) (w : World) : Prop where
  rel : Rel G st β a w
  vis : ∀ t, RV ws (Fr G.w0 G.F0 st0.s β0) β0 (tv t) (a.tmps.getD t undef)
  ext : Ext st0.s.nx G.w0 nX st0.s β0 ws st.s β w
  mono : st0.s.nx ≤ st.s.nx
  keep : Kp (Fr G.w0 G.F0 st0.s β0) (st0.s.hide T) β0 ws w
  tgt : ∀ i b c, (st.s.ob i).isSome = true → β i = some (some (b, c)) → b < ws.heap.size → (Fr G.w0 G.F0 st0.s β0 b ∨ ∃ j o c', (st0.s.hide T).ob j = some o ∧ β0 j = some (some (b, c'))) → T.contains i = false
theorem hide_ob {s : Sto} {T : List Nat} {j : Nat} {o : DObj} (h : (s.hide T).ob j = some o) : s.ob j = some o ∧ T.contains j = false := by
  unfold Sto.hide at h
  simp only at h
  split at h
  · cases h
  · rename_i hc; exact ⟨h, by simpa using hc⟩
theorem RM.start [Inhabited GlobS] {G : Org} {st : St} {β : Beta} {a : Act} {w : World} (h : Rel G st β a w) (T : List Nat) : RM G st β w T st st.tm β a w :=
  ⟨h, h.tm, .refl, Nat.le_refl _, fun _ _ _ => rfl, fun i b c hi hb hlt hv => by
    obtain ⟨o, ho⟩ := Option.isSome_iff_exists.1 hi
    rcases h.srel.obs i o ho with g | ⟨b', c', cur, g1, g2, _⟩
    · rw [g.1] at hb; cases hb
    rw [g1] at hb
    simp only [Option.some.injEq, Prod.mk.injEq] at hb
    obtain ⟨rfl, rfl⟩ := hb
    rcases hv with ⟨_, (hF | hF)⟩ | ⟨j, oj, cj, hj, hbj⟩
    · omega
    · exact absurd g1 (hF.2 i _ hi)
    · obtain ⟨h1, h2⟩ := hide_ob hj
      have e := h.srel.inj i j _ _ _ hi (by simp [h1]) g1 hbj
      rw [e]; exact h2⟩
theorem plain_normal {R : Exit → Act → World → Prop} {a : Act} {w : World} (h : R .normal a w) : Plain R .normal a w := h
end Go.Dl
namespace Go.Dl
open Go Go.RowKit
def dnoGoto (Q : DExit → St → Prop) : DExit → St → Prop
  | .goto _, _ => False
  | e, st => Q e st
theorem Tri.scope [Inhabited GlobS] {P : Program} {N : Nat} {Y : YT} {c : Code} {st : St} {Q : DExit → St → Prop} (hk : codeOk P N c = true) (h : dcode P N Y c st (dnoGoto Q)) : Tri P N Y (.scope c) st Q := fun G hN hY β a w R hr hR =>
  wpIn_scope_straight (dcode_sound c hk h G hN hY β a w _ hr fun e st' β' a' w' hq hr' => by
    cases e with
    | normal => exact hR .normal _ _ _ _ hq hr'
    | exit id => exact hR (.exit id) _ _ _ _ hq hr'
    | goto l => exact hq.elim
    | ret => exact hR .ret _ _ _ _ hq hr')
end Go.Dl
namespace Go.Dl
open Go Go.RowKit
theorem DW.arrE {ρ : Nat → Option Nat} {s : Sto} {pub : Nat → Prop} {id id' len len' : Nat} (h : ρ id' = some id) (hl : len = len') : DW ρ s pub (.arr id len) (.arr id' len') := by rw [← hl]; exact .arr _ _ _ h
def Retold (K : DV → Sto → Prop) (base : Nat) (r : DV) (s : Sto) : Prop :=
  ∃ (r' : DV) (rl : List (Nat × Option Nat)) (pubs : List Nat) (l : List (Nat × DObj)) (nx' : Nat), chkS rl base s.nx nx' (l.map (·.1)) pubs = true ∧ DW (rho rl base s.nx) s (· ∈ pubs) r r' ∧
    allP (fun p => match rho rl base s.nx p.1 with
      | some k => (match s.ob k with | some o => OW (rho rl base s.nx) s (· ∈ pubs) o p.2 | none => False)
      | none => p.2.cells = []) l ∧ K r' (.of l nx')
theorem Retold.list {K : DV → Sto → Prop} {base : Nat} {r : DV} {s : Sto} (rl : List (Nat × Option Nat)) (pubs : List Nat) (r' : DV) (l : List (Nat × DObj)) (nx' : Nat) (h1 : chkS rl base s.nx nx' (l.map (·.1)) pubs = true)
    (h2 : DW (rho rl base s.nx) s (· ∈ pubs) r r') (h3 : allP (fun p => match rho rl base s.nx p.1 with
      | some k => (match s.ob k with | some o => OW (rho rl base s.nx) s (· ∈ pubs) o p.2 | none => False)
      | none => p.2.cells = []) l) (hK : K r' (.of l nx')) : Retold K base r s := ⟨r', rl, pubs, l, nx', h1, h2, h3, hK⟩
theorem SCall.retell [Inhabited GlobS] {P : Program} {f : FuncId} {args : List DV} {s : Sto} {K : DV → Sto → Prop} (h : SCall P f args s (Retold K s.nx)) : SCall P f args s K := fun w0 F0 β w vals hs hx =>
  (h w0 F0 β w vals hs hx).mono fun e w' ⟨v, r, s', β', he, ⟨r', rl, pubs, l, nx', h1, h2, h3, hK⟩, k1, k2, k3, k4⟩ => by
    obtain ⟨g1, g2, g3⟩ := (SW.of h1 h3).step k1
    refine ⟨v, r', _, _, he, hK, g1, k2.trans g2, ?_, g3 h2 k4⟩
    simp only [chkS, Bool.and_eq_true, decide_eq_true_eq] at h1
    exact h1.1.1.1.1
end Go.Dl
namespace Go.Dl
open Go Go.RowKit Go.ChangeShapes
inductive Shp (P : Program) : TypeId → List DV → Prop
  | bool {t : TypeId} (h : P.underlying t = some .bool) (b : Bool) : Shp P t [.v (.bool b)]
  | int {t : TypeId} {k : IntKind} (h : P.underlying t = some (.int k)) (x : Int) (hw : (Lit.int k x).wf = true) : Shp P t [.v (.int k x)]
  | str {t : TypeId} (h : P.underlying t = some .string) (s : ByteArray) (hs : s.size ≤ reachBytes) : Shp P t [.v (.string s)]
  | slice {t e : TypeId} (h : P.underlying t = some (.slice e)) (es : List (List DV)) (hb : es.length * P.bytesOf e ≤ reachBytes) (hr : ∀ r, r ∈ es → Shp P e r) : Shp P t [.lst (P.cellsOf e) es]
  | struct {t : TypeId} {fs : Array Field} (h : P.underlying t = some (.struct fs)) (ds : List DV) (hl : ds.length = P.cellsOf t) (hf : ∀ f, f ∈ fs.toList → Shp P f.type ((ds.drop f.offset).take (P.cellsOf f.type))) : Shp P t ds
def tileB (P : Program) : List Field → Nat → Nat → Bool
  | [], off, total => decide (off = total)
  | f :: fs, off, total => decide (f.offset = off) && tileB P fs (off + P.cellsOf f.type) total
def plainT (P : Program) : Nat → TypeId → Bool
  | 0, _ => false
  | n + 1, t => match P.underlying t with
    | some .bool | some (.int _) | some .string => decide (P.cellsOf t = 1)
    | some (.slice e) => decide (P.cellsOf t = 1) && decide (0 < P.cellsOf e) && plainT P n e
    | some (.struct fs) => tileB P fs.toList 0 (P.cellsOf t) && fs.toList.all fun f => plainT P n f.type
    | _ => false
def Cr (w : World) (ds : List DV) (cs : List Value) : Prop := ds.length = cs.length ∧ ∀ (j : Nat) d x, ds[j]? = some d → cs[j]? = some x → RD w (fun _ => True) d x
theorem Cr.append {w : World} {ds es : List DV} {cs xs : List Value} (h : Cr w ds cs) (k : Cr w es xs) : Cr w (ds ++ es) (cs ++ xs) := by
  refine ⟨by rw [List.length_append, List.length_append, h.1, k.1], fun j d x h1 h2 => ?_⟩
  rcases Nat.lt_or_ge j ds.length with hj | hj
  · rw [List.getElem?_append_left hj] at h1
    rw [List.getElem?_append_left (by rw [← h.1]; exact hj)] at h2
    exact h.2 j d x h1 h2
  · rw [List.getElem?_append_right hj] at h1
    rw [List.getElem?_append_right (by rw [← h.1]; exact hj), ← h.1] at h2
    exact k.2 _ d x h1 h2
theorem Cr.one {w : World} {d : DV} {x : Value} (h : RD w (fun _ => True) d x) : Cr w [d] [x] := by
  refine ⟨rfl, fun j e y h1 h2 => ?_⟩
  cases j with
  | zero => simp at h1 h2; rw [← h1, ← h2]; exact h
  | succ j => simp at h1
theorem list_choice {α : Type} {p : Nat → α → Prop} (n : Nat) : (∀ i, i < n → ∃ x, p i x) → ∃ l : List α, l.length = n ∧ ∀ (i : Nat) x, l[i]? = some x → p i x := by
  induction n with
  | zero => exact fun _ => ⟨[], rfl, fun i x h => by simp at h⟩
  | succ n ih =>
    intro h
    obtain ⟨l, h1, h2⟩ := ih fun i hi => h i (by omega)
    obtain ⟨x, hx⟩ := h n (by omega)
    refine ⟨l ++ [x], by simp [h1], fun i y hy => ?_⟩
    rcases Nat.lt_or_ge i l.length with hi | hi
    · rw [List.getElem?_append_left hi] at hy; exact h2 i y hy
    · rw [List.getElem?_append_right hi] at hy
      have : i - l.length = 0 := by
        have := (List.getElem?_eq_some_iff.1 hy).1
        simp at this; omega
      rw [this] at hy
      simp at hy
      subst hy
      have : i = n := by omega
      subst this; exact hx
theorem weightsAll_mem {H : Type} {P : Program} {e : TypeId} {l : List (DataW H)} {d : DataW H} (h : d ∈ l) {n : Nat} (hn : n ∈ d.weights P e) : n ∈ DataW.weightsAll P e l := by
  induction l with
  | nil => cases h
  | cons x l ih =>
    simp only [DataW.weightsAll, List.mem_append]
    rcases List.mem_cons.1 h with rfl | h
    · exact .inl hn
    · exact .inr (ih h)
theorem cells_run {w : World} {base : Nat} {a : Addr} {n : Nat} {cs : List Value} (h : w.cells? base a n = some cs) : cs.length = n ∧ ∀ (j : Nat) x, cs[j]? = some x → w.cell? (a.add j) = some x := by
  unfold World.cells? at h
  split at h
  · obtain ⟨h1, h2⟩ := mapM_get _ _ _ h
    have hl : cs.length = n := by rw [← h1]; simp
    refine ⟨hl, fun j x hj => ?_⟩
    have hjn := (List.getElem?_eq_some_iff.1 hj).1
    exact h2 j j x (List.getElem?_range (by omega)) hj
  · cases h
theorem add_cell {w : World} {a : Addr} {n : Nat} {x : Value} (h : w.cell? (a.add n) = some x) : w.cell? ⟨a.block, a.off + n, none⟩ = some x := by
  have hs := World.cell?_spot h
  by_cases hn : n = 0
  · subst hn
    have e : a.add 0 = a := by simp [Addr.add]
    rw [e] at h hs
    cases a with | mk b o s => simp only at hs; subst hs; exact h
  · simpa [Addr.add, hn] using h
theorem add_block (a : Addr) (n : Nat) : (a.add n).block = a.block ∧ (a.add n).off = a.off + n := by
  by_cases hn : n = 0
  · subst hn; simp [Addr.add]
  · simp [Addr.add, hn]
section
variable {H : Type} {enc : TypeId × Value → H} {P : Program} {w : World}
theorem fields_shp (total : Nat) (cs : List Value) (hcs : cs.length = total) (g : Field → Option (DataW H × List MemPlace)) (fs : List Field) : ∀ (off : Nat) (xs : List (DataW H × List MemPlace)), tileB P fs off total = true → fs.mapM g = some xs →
    (∀ f, f ∈ fs → ∀ x, g f = some x → (∀ n ∈ x.1.weights P f.type, n ≤ reachBytes) → ∃ ds, Shp P f.type ds ∧ Cr w ds ((cs.drop f.offset).take (P.cellsOf f.type))) →
    (∀ m ∈ DataW.weightsEach P (fs.map (·.type)) (xs.map (·.1)), m ≤ reachBytes) → off ≤ total →
    ∃ ds, Cr w ds (cs.drop off) ∧ ∀ f, f ∈ fs → off ≤ f.offset ∧ Shp P f.type ((ds.drop (f.offset - off)).take (P.cellsOf f.type)) := by
  induction fs with
  | nil =>
    intro off xs ht _ _ _ _
    simp only [tileB, decide_eq_true_eq] at ht
    exact ⟨[], ⟨by simp; omega, fun j d x h => by simp at h⟩, fun f hf => by cases hf⟩
  | cons f fs ih =>
    intro off xs ht hm hg hw hoff
    simp only [tileB, Bool.and_eq_true, decide_eq_true_eq] at ht
    obtain ⟨h1, h2⟩ := ht
    have hge : ∀ (l : List Field) (o : Nat), tileB P l o total = true → o ≤ total ∧ ∀ f', f' ∈ l → o ≤ f'.offset := by
      intro l
      induction l with
      | nil => intro o h; simp [tileB] at h; exact ⟨by omega, fun f' hf => by cases hf⟩
      | cons a l ih' =>
        intro o h
        simp only [tileB, Bool.and_eq_true, decide_eq_true_eq] at h
        obtain ⟨k1, k2⟩ := ih' _ h.2
        refine ⟨by omega, fun f' hf => ?_⟩
        rcases List.mem_cons.1 hf with rfl | hf
        · omega
        · have := k2 f' hf; omega
    obtain ⟨hle, hge⟩ := hge fs _ h2
    simp only [List.mapM_cons, Option.bind_eq_bind] at hm
    cases hgf : g f with
    | none => rw [hgf] at hm; simp at hm
    | some x0 =>
      rw [hgf] at hm
      simp only [Option.bind_some] at hm
      cases hrest : fs.mapM g with
      | none => rw [hrest] at hm; simp at hm
      | some xs' =>
        rw [hrest] at hm
        simp only [Option.bind_some] at hm
        have hm : some (x0 :: xs') = some xs := hm
        cases hm
        simp only [List.map_cons, DataW.weightsEach, List.mem_append] at hw
        obtain ⟨d0, hs0, hc0⟩ := hg f (List.mem_cons_self ..) x0 hgf (fun n hn => hw n (.inl hn))
        obtain ⟨ds, hc, hs⟩ := ih _ xs' h2 hrest (fun f' hf => hg f' (List.mem_cons_of_mem _ hf)) (fun n hn => hw n (.inr hn)) hle
        have hl0 : d0.length = P.cellsOf f.type := by rw [hc0.1]; simp; omega
        refine ⟨d0 ++ ds, ?_, fun f' hf => ?_⟩
        · have e : cs.drop off = (cs.drop f.offset).take (P.cellsOf f.type) ++ cs.drop (off + P.cellsOf f.type) := by
            rw [h1]
            rw [← List.drop_drop, List.take_append_drop]
          rw [e]
          exact hc0.append hc
        · rcases List.mem_cons.1 hf with rfl | hf
          · refine ⟨by omega, ?_⟩
            rw [show f'.offset - off = 0 by omega, List.drop_zero, ← hl0, List.take_left]
            exact hs0
          · obtain ⟨k1, k2⟩ := hs f' hf
            refine ⟨by omega, ?_⟩
            rw [show f'.offset - off = d0.length + (f'.offset - (off + P.cellsOf f.type)) by omega, List.drop_length_add_append]
            exact k2
theorem trod_shp (fuel : Nat) : ∀ (n : Nat) (t : TypeId) (cs : List Value) (x : DataW H × List MemPlace), plainT P n t = true → DataW.trod enc P w 0 (fun _ => true) true fuel t cs = some x → (∀ m ∈ x.1.weights P t, m ≤ reachBytes) →
    ∃ ds, Shp P t ds ∧ Cr w ds cs := by
  induction fuel with
  | zero => intro n t cs x _ h; simp [DataW.trod] at h
  | succ fuel ih =>
    intro n t cs x hp h hw
    cases n with
    | zero => simp [plainT] at hp
    | succ n =>
      unfold plainT at hp
      split at hp
      · rename_i hu
        unfold DataW.trod at h
        rw [hu] at h
        split at h <;> simp_all
        exact ⟨_, .bool hu _, Cr.one (.v _ rfl)⟩
      · rename_i k hu
        unfold DataW.trod at h
        rw [hu] at h
        split at h <;> simp_all
        rename_i k' m _
        obtain ⟨⟨rfl, h1⟩, h2⟩ := h
        exact ⟨_, .int hu m h1, Cr.one (.v _ rfl)⟩
      · rename_i hu
        unfold DataW.trod at h
        rw [hu] at h
        split at h <;> simp_all
        obtain ⟨h1, h2⟩ := h
        subst h2
        refine ⟨_, .str hu _ ?_, Cr.one (.v _ rfl)⟩
        have := hw _ (by simp [DataW.weights]; rfl)
        simpa using this
      · rename_i e hu
        simp only [Bool.and_eq_true, decide_eq_true_eq] at hp
        obtain ⟨⟨hp1, hp2⟩, hp3⟩ := hp
        unfold DataW.trod at h
        rw [hu] at h
        split at h
        all_goals try (cases h; done)
        all_goals try (rename_i heq _; cases heq; done)
        all_goals try (rename_i heq; cases heq; done)
        · rename_i e' heq
          cases h
          refine ⟨_, .slice hu [] (by simp) (fun r hr => by cases hr), Cr.one (.lst _ [] none 0 0 0 (fun _ _ => undef) (fun h => absurd rfl h) (fun _ => rfl) (by simp) (by simp) (fun i cs h => by simp at h) (fun i cs j d h => by simp at h) (fun i cs j d h => by simp at h))⟩
        · rename_i e' a len cap heq
          cases heq
          simp only at h
          split at h
          · rename_i hcap
            obtain ⟨_, hlc, hcm⟩ := hcap
            simp only [Option.bind_eq_some_iff, Option.map_eq_some_iff] at h
            obtain ⟨elems, hel, rest, _, hx⟩ := h
            obtain ⟨g1, g2⟩ := mapM_get _ _ _ hel
            have hlen : elems.length = len := by rw [← g1]; simp
            subst hx
            have hwt : ∀ m, m ∈ ((elems.map (·.1)).length + (rest.map (·.1)).length) * P.bytesOf e :: (DataW.weightsAll P e (elems.map (·.1)) ++ DataW.weightsAll P e (rest.map (·.1))) → m ≤ reachBytes := fun m hm => hw m (by simpa only [DataW.weights, hu] using hm)
            have hrow : ∀ i, i < len → ∃ row : List DV, Shp P e row ∧ row.length = P.cellsOf e ∧ ∀ (j : Nat) d, row[j]? = some d → ∃ x, w.cell? ⟨a.block, a.off + (i * P.cellsOf e + j), none⟩ = some x ∧ (i * P.cellsOf e + j = 0 → a.spot = none) ∧ RD w (fun _ => True) d x := fun i hi => by
              have hie : i < elems.length := by omega
              have := g2 i i elems[i] (List.getElem?_range hi) (List.getElem?_eq_getElem hie)
              simp only [Option.bind_eq_some_iff] at this
              obtain ⟨cs', hc1, hc2⟩ := this
              obtain ⟨k1, k2⟩ := cells_run hc1
              obtain ⟨row, hs, hcr⟩ := ih n e cs' _ hp3 hc2 (fun m hm => hwt m (by
                refine List.mem_cons_of_mem _ (List.mem_append.2 (.inl ?_))
                exact weightsAll_mem (List.mem_map.2 ⟨_, List.getElem_mem hie, rfl⟩) hm))
              refine ⟨row, hs, by rw [hcr.1, k1], fun j d hd => ?_⟩
              have hj : j < cs'.length := by rw [← hcr.1]; exact (List.getElem?_eq_some_iff.1 hd).1
              have := k2 j cs'[j] (List.getElem?_eq_getElem hj)
              have h3 := add_cell this
              rw [(add_block a _).1, (add_block a _).2, Nat.add_assoc] at h3
              refine ⟨cs'[j], h3, fun h0 => ?_, hcr.2 j d _ hd (List.getElem?_eq_getElem hj)⟩
              have h4 := World.cell?_spot this
              rw [show i * P.cellsOf e = 0 by omega, show j = 0 by omega] at h4
              simpa [Addr.add] using h4
            obtain ⟨es, hes, hes'⟩ := list_choice len hrow
            have hbytes : es.length * P.bytesOf e ≤ reachBytes := by
              have := hwt _ (List.mem_cons_self ..)
              simp only [List.length_map] at this
              refine Nat.le_trans (Nat.mul_le_mul_right _ ?_) this
              omega
            refine ⟨_, .slice hu es hbytes (fun r hr => ?_), Cr.one ?_⟩
            · obtain ⟨i, hi⟩ := List.mem_iff_getElem?.1 hr
              exact (hes' i r hi).1
            · have := RD.lst (w := w) (F := fun _ => True) (P.cellsOf e) es (some a) a.block a.off cap (fun i j => (w.cell? ⟨a.block, a.off + i * P.cellsOf e + j, none⟩).getD undef)
                (fun hne => by
                  cases hes0 : es with
                  | nil => exact absurd hes0 hne
                  | cons r0 es0 =>
                    obtain ⟨_, q2, q3⟩ := hes' 0 r0 (by rw [hes0]; rfl)
                    cases hr0 : r0 with
                    | nil => rw [hr0] at q2; simp at q2; omega
                    | cons d0 r1 =>
                      obtain ⟨x, hx, hsp, _⟩ := q3 0 d0 (by rw [hr0]; rfl)
                      have := hsp (by simp)
                      cases a with | mk b o s => simp only at this; subst this; rfl)
                (fun h => by cases h) (by omega) hcm (fun i cs hi => (hes' i cs hi).2.1)
                (fun i cs j d hi hj => by
                  obtain ⟨_, q2, q3⟩ := hes' i cs hi
                  obtain ⟨x, hx, _⟩ := q3 j d hj
                  rw [Nat.add_assoc, hx]
                  exact ⟨rfl, trivial⟩)
                (fun i cs j d hi hj => by
                  obtain ⟨_, q2, q3⟩ := hes' i cs hi
                  obtain ⟨x, hx, _, hr⟩ := q3 j d hj
                  rw [Nat.add_assoc, hx]
                  exact hr)
              rw [hes] at this
              exact this
          · cases h
      · rename_i fs hu
        simp only [Bool.and_eq_true, List.all_eq_true] at hp
        simp only [DataW.trod, hu] at h
        split at h
        · rename_i hlen
          simp only [Option.map_eq_some_iff] at h
          obtain ⟨xs, hx1, hx2⟩ := h
          subst hx2
          obtain ⟨ds, hc, hs⟩ := fields_shp (P.cellsOf t) cs hlen _ fs.toList 0 xs hp.1 hx1
            (fun f hf x hx hwx => ih n f.type _ x (hp.2 f hf) hx hwx)
            (fun m hm => hw m (by simpa only [DataW.weights, hu] using hm)) (Nat.zero_le _)
          refine ⟨ds, .struct hu ds (by rw [hc.1, List.drop_zero, hlen]) (fun f hf => ?_), by simpa using hc⟩
          have := (hs f hf).2
          simpa using this
        · cases h
      · cases hp
end
def ShpV (P : Program) (t : TypeId) (d : DV) : Prop :=
  match P.underlying t with
  | some (.struct _) => ∃ ds, d = .agg ds ∧ Shp P t ds
  | _ => Shp P t [d]
def ShpAll (P : Program) : List TypeId → List DV → Prop
  | [], [] => True
  | t :: ts, d :: ds => ShpV P t d ∧ ShpAll P ts ds
  | _, _ => False
theorem trod_shpV {H : Type} {enc : TypeId × Value → H} {P : Program} {W : World} {n : Nat} {t : TypeId} {base : Nat} {v : Value} {d : DataW H} {ps : List MemPlace} (hp : plainT P n t = true) (hok : Value.okWide P W .any base t v)
    (h : DataW.Trod enc P W 0 (fun _ => true) true t v d ps) (hw : ∀ m ∈ d.weights P t, m ≤ reachBytes) : ∃ dv, ShpV P t dv ∧ RV W (fun _ => True) (fun _ => none) dv v := by
  obtain ⟨fuel, h⟩ := h
  obtain ⟨ds, hs, hc⟩ := trod_shp fuel n t _ _ hp h hw
  by_cases hst : ∃ fs, P.underlying t = some (.struct fs)
  · obtain ⟨fs, hu⟩ := hst
    unfold Value.okWide at hok
    rw [hu] at hok
    obtain ⟨cs, rfl, _, _⟩ := hok
    refine ⟨.agg ds, ?_, ?_⟩
    · unfold ShpV; rw [hu]; exact ⟨ds, rfl, hs⟩
    · have e : (Value.agg cs).cells.toList = cs.toList := rfl
      rw [e] at hc
      have := RV.agg (w := W) (F := fun _ => True) (β := fun _ => none) ds cs.toList hc.1 (fun i d x h1 h2 => .data (hc.2 i d x h1 h2))
      simpa using this
  · have e : v.cells.toList = [v] := by
      cases n with
      | zero => simp [plainT] at hp
      | succ n =>
        unfold plainT at hp
        unfold Value.okWide at hok
        cases hu : P.underlying t with
        | none => rw [hu] at hp; cases hp
        | some u =>
          rw [hu] at hp hok
          cases v with
          | agg xs =>
            exfalso
            cases u <;> simp only [Cell.okWide, Cell.ok, hu] at hok <;> simp_all
          | _ => rfl
    rw [e] at hc
    cases ds with
    | nil => have := hc.1; simp at this
    | cons d0 ds =>
      cases ds with
      | cons d1 ds => have := hc.1; simp at this
      | nil =>
        refine ⟨d0, ?_, .data (hc.2 0 d0 v rfl rfl)⟩
        unfold ShpV
        split
        · rename_i fs hu; exact absurd ⟨fs, hu⟩ hst
        · exact hs
theorem shpAll_of {H : Type} {enc : TypeId × Value → H} {P : Program} {W : World} {base : Nat} : ∀ (ts : List TypeId) (vs : List Value) (ds : List (DataW H)) (ps : List MemPlace), (ts.all (plainT P 20)) = true →
    (∀ (j : Nat) t v, ts[j]? = some t → vs[j]? = some v → Value.okWide P W .any base t v) → DataW.TrodAll enc P W 0 (fun _ => true) true ts vs ds ps → (∀ m ∈ DataW.weightsEach P ts ds, m ≤ reachBytes) →
    ∃ dvs, ShpAll P ts dvs ∧ Pw W (fun _ => True) (fun _ => none) dvs vs
  | [], vs, ds, ps, _, _, h, _ => by
    obtain ⟨rfl, rfl, rfl⟩ := trodAll_nil h
    exact ⟨[], trivial, Pw.nil⟩
  | t :: ts, vs, ds, ps, hp, hok, h, hw => by
    obtain ⟨v, vs', d, ds', p, q, rfl, rfl, rfl, h1, h2⟩ := trodAll_cons h
    simp only [List.all_cons, Bool.and_eq_true] at hp
    simp only [DataW.weightsEach, List.mem_append] at hw
    obtain ⟨dv, k1, k2⟩ := trod_shpV hp.1 (hok 0 t v rfl rfl) h1 (fun m hm => hw m (.inl hm))
    obtain ⟨dvs, k3, k4⟩ := shpAll_of ts vs' ds' q hp.2 (fun j t' v' h3 h4 => hok (j + 1) t' v' h3 h4) h2 (fun m hm => hw m (.inr hm))
    exact ⟨dv :: dvs, ⟨k1, k3⟩, Pw.cons k2 k4⟩
theorem trodAll_below [Inhabited GlobS] {H : Type} {enc : TypeId × Value → H} {P : Program} {W W' : World} (hl : laidOutB P = true) (hb : BelowD W.heap.size W W') : ∀ (ts : List TypeId) (vs : List Value) (ds : List (DataW H)) (ps : List MemPlace),
    (ts.all fun t => P.readableRec t && decide (t < P.types.size)) = true → DataW.TrodAll enc P W 0 (fun _ => true) true ts vs ds ps → DataW.TrodAll enc P W' 0 (fun b => decide (b < W.heap.size)) true ts vs ds ps
  | [], vs, ds, ps, _, h => by
    obtain ⟨rfl, rfl, rfl⟩ := trodAll_nil h
    exact trodAll_mk0
  | t :: ts, vs, ds, ps, hp, h => by
    obtain ⟨v, vs', d, ds', p, q, rfl, rfl, rfl, h1, h2⟩ := trodAll_cons h
    simp only [List.all_cons, Bool.and_eq_true, decide_eq_true_eq] at hp
    refine trodAll_cons_mk (RowKit.Below.trod hl hp.1.1 hp.1.2 h1 hb.kit ?_) (trodAll_below hl hb ts vs' ds' q hp.2 h2)
    obtain ⟨m, hm⟩ := h1
    exact DataW.trod_lt m _ _ _ hm
theorem trodAll_len {H : Type} {enc : TypeId × Value → H} {P : Program} {W : World} : ∀ (ts : List TypeId) (vs : List Value) (ds : List (DataW H)) (ps : List MemPlace), DataW.TrodAll enc P W 0 (fun _ => true) true ts vs ds ps → ds.length = ts.length
  | [], vs, ds, ps, h => by
    obtain ⟨rfl, rfl, rfl⟩ := trodAll_nil h
    rfl
  | t :: ts, vs, ds, ps, h => by
    obtain ⟨v, vs', d, ds', p, q, rfl, rfl, rfl, h1, h2⟩ := trodAll_cons h
    simp [trodAll_len ts vs' ds' q h2]
end Go.Dl
