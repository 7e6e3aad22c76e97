/-
  The data-level logic, part 2: operations that only read (quiet ones): what they give at abstract values ('dq'), and that this is what they give (dq_sound).
-/
import Derived.Test.YtlchjjchgebfiaaGreatDoorDp1
import Derived.Laws.StructEq

namespace Go.Dl
open Go Go.RowKit
def evg (g : Bool) (d : DV) (K : DV → Prop) : Prop :=
  match d with
  | .when t d => (g = true → t = true) ∧ K d
  | d => K d
theorem evg_sound {g : Bool} {K : DV → Prop} (d : DV) (h : evg g d K) : ∃ d', K d' ∧ (g = true → ∀ w F β x, RV w F β d x → RV w F β d' x) := by
  unfold evg at h
  split at h
  · obtain ⟨h1, h2⟩ := h
    refine ⟨_, h2, fun hg w F β x hx => ?_⟩
    cases hx with
    | data h => cases h
    | whn _ _ _ h h0 => exact h (h1 hg)
  · exact ⟨_, h, fun _ _ _ _ _ h => h⟩
def str0 : DV → DV
  | .when _ d => d
  | d => d
theorem evg_sound2 {g : Bool} {K : DV → Prop} (d : DV) (h : evg g d K) : K (str0 d) ∧ (g = true → ∀ w F β x, RV w F β d x → RV w F β (str0 d) x) := by
  unfold evg at h
  split at h
  · obtain ⟨h1, h2⟩ := h
    refine ⟨h2, fun hg w F β x hx => ?_⟩
    cases hx with
    | data h => cases h
    | whn _ _ _ h h0 => exact h (h1 hg)
  · rename_i hn
    have e : str0 d = d := by
      cases d <;> first | rfl | exact absurd rfl (hn _ _)
    rw [e]
    exact ⟨h, fun _ _ _ _ _ h => h⟩
def aggSz (P : Program) (t : TypeId) : Option Nat :=
  match P.underlying t with
  | some (.struct _) | some (.array _ _) => some (P.cellsOf t)
  | _ => none
def fldOff (P : Program) (t : TypeId) (f : Nat) : Option Nat :=
  match P.underlying t with
  | some (.struct fs) => match fs[f]? with
    | some x => if P.cellsOf x.type = 0 then none else some x.offset
    | none => none
  | _ => none
def isStr (P : Program) (t : TypeId) : Bool := match P.underlying t with | some .string => true | _ => false
def intK (P : Program) (t : TypeId) : Option IntKind := match P.underlying t with | some (.int k) => some k | _ => none
def isBoolT (P : Program) (t : TypeId) : Bool := match P.underlying t with | some .bool => true | _ => false
def isKnown (P : Program) (t : TypeId) : Bool := (P.underlying t).isSome
def byteAt (s : ByteArray) (n : Nat) : Int := ((s.data.toList.getD n 0).toNat : Int)
def ObsF (w0 : World) (F : Nat → Prop) (s : Sto) (β : Beta) (w : World) : Prop := ∀ i o, s.ob i = some o → ORep w0 w F β i o
def Kp (F : Nat → Prop) (s : Sto) (β : Beta) (w w' : World) : Prop :=
  ∀ b, b < w.heap.size → (F b ∨ ∃ i o c, s.ob i = some o ∧ β i = some (some (b, c))) → w'.heap[b]? = w.heap[b]?
theorem Kp.of_below [Inhabited GlobS] {F : Nat → Prop} {s : Sto} {β : Beta} {w w' : World} (h : BelowD w.heap.size w w') : Kp F s β w w' := fun b hb _ => h.block b hb
def QSem (P : Program) (s : Sto) (op : Op) (ρ : Operand → DV) (d : DV) : Prop :=
  ∀ (w0 : World) (F0 : Nat → Prop) (β : Beta) (w : World) (a : Act), ObsF w0 F0 s β w → (∀ x, RV w F0 β (ρ x) (a.eval x)) →
    ∃ v, RV w F0 β d v ∧ ∀ (o : Oper) w', o.op = op → Kp F0 s β w w' → (execOp a.eval o).run P w' = .ok (.value v) w'
def dbin (op : BinOp) (g : Bool) : DV → DV → (DV → Prop) → Prop
  | .v (.int k a), .v (.int k' b), K =>
    match op with
    | .add => (g = true → k = k') ∧ K (.v (.int k (k.wrap (a + b))))
    | .sub => (g = true → k = k') ∧ K (.v (.int k (k.wrap (a - b))))
    | .mul => (g = true → k = k') ∧ K (.v (.int k (k.wrap (a * b))))
    | .quo => (g = true → k = k' ∧ b ≠ 0) ∧ K (.v (.int k (k.wrap (a.tdiv b))))
    | .rem => (g = true → k = k' ∧ b ≠ 0) ∧ K (.v (.int k (a.tmod b)))
    | .eql => (g = true → k = k') ∧ K (.v (.bool (a == b)))
    | .neq => (g = true → k = k') ∧ K (.v (.bool (a != b)))
    | .lss => (g = true → k = k') ∧ K (.v (.bool (decide (a < b))))
    | .leq => (g = true → k = k') ∧ K (.v (.bool (decide (a ≤ b))))
    | .gtr => (g = true → k = k') ∧ K (.v (.bool (decide (b < a))))
    | .geq => (g = true → k = k') ∧ K (.v (.bool (decide (b ≤ a))))
    | .shl => (g = true → 0 ≤ b) ∧ K (.v (.int k (k.wrap (a * 2 ^ (min b.toNat k.bits)))))
    | .shr => (g = true → 0 ≤ b) ∧ K (.v (.int k (a.fdiv (2 ^ (min b.toNat k.bits)))))
    | .and => (g = true → k = k') ∧ K (.v (.int k (bits .and k a b)))
    | .or => (g = true → k = k') ∧ K (.v (.int k (bits .or k a b)))
    | .xor => (g = true → k = k') ∧ K (.v (.int k (bits .xor k a b)))
    | .andNot => (g = true → k = k') ∧ K (.v (.int k (bits .andNot k a b)))
  | .v (.string a), .v (.string b), K =>
    match op with
    | .add => (g = true → a.size + b.size ≤ 9223372036854775807) ∧ K (.v (.string (a ++ b)))
    | .eql => K (.v (.bool (a == b)))
    | .neq => K (.v (.bool (a != b)))
    | .lss => K (.v (.bool (Op.bytesLess a.toList b.toList)))
    | .leq => K (.v (.bool (Op.bytesLess a.toList b.toList || a == b)))
    | .gtr => K (.v (.bool (!(Op.bytesLess a.toList b.toList || a == b))))
    | .geq => K (.v (.bool (!(Op.bytesLess a.toList b.toList))))
    | _ => False
  | _, _, _ => False
theorem dbin_sound {P : Program} {op : BinOp} {t : TypeId} {g : Bool} {dx dy : DV} {K : DV → Prop} (h : dbin op g dx dy K) :
    ∃ d, K d ∧ (g = true → ∀ w F β (x y : Operand) vx vy, RV w F β dx vx → RV w F β dy vy → ∃ v, RV w F β d v ∧
      ∀ w', ((do eqGuard op t x y vx vy; binOp op t vx vy) : Sem Value).run P w' = .ok v w') := by
  have hv : ∀ {w : World} {F : Nat → Prop} {β : Beta} {u v : Value}, RV w F β (.v u) v → v = u := fun h => by
    cases h with
    | data h => cases h; rfl
  unfold dbin at h
  split at h
  · split at h
    all_goals first
      | exact h.elim
      | (obtain ⟨h1, h2⟩ := h
         refine ⟨_, h2, fun hg w F β x y vx vy hx hy => ⟨_, .data (.v _ rfl), fun w' => ?_⟩⟩
         rw [hv hx, hv hy]
         first
           | (obtain rfl := h1 hg; simp [go_sem, eqGuard, binOp, Op.intArith, Op.intCmp, bits, Op.intBits]; done)
           | (obtain ⟨rfl, h3⟩ := h1 hg; simp [go_sem, eqGuard, binOp, Op.intDiv, h3]; done)
           | (have h3 := h1 hg; simp [go_sem, eqGuard, binOp, Op.shift, Int.not_lt.2 h3]; done))
  · split at h
    all_goals first
      | exact h.elim
      | (obtain ⟨h1, h2⟩ := h
         refine ⟨_, h2, fun hg w F β x y vx vy hx hy => ⟨_, .data (.v _ rfl), fun w' => ?_⟩⟩
         rw [hv hx, hv hy]
         have h3 := h1 hg
         have h4 : ¬ ((9223372036854775807 : Int) < (_ : Int)) := Int.not_lt.2 (Int.ofNat_le.2 h3)
         simp only [Int.natCast_add] at h4
         simp [go_sem, binOp, Op.stringOp, h4]
         done)
      | (refine ⟨_, h, fun hg w F β x y vx vy hx hy => ⟨_, .data (.v _ rfl), fun w' => ?_⟩⟩
         rw [hv hx, hv hy]
         simp [go_sem, binOp, Op.stringOp, beq_toListBytes, bne]
         done)
  · exact h.elim
section
variable {w : World} {F : Nat → Prop} {β : Beta}
theorem rv_v {u x : Value} (h : RV w F β (.v u) x) : x = u := by
  cases h with
  | data h => cases h; rfl
theorem rv_ref {id off : Nat} {x : Value} (h : RV w F β (.ref id off) x) : ∃ b c, β id = some (some (b, c)) ∧ x = .pointer (some ⟨b, off, none⟩) := by
  cases h with
  | data h => cases h
  | ref _ _ b c h => exact ⟨b, c, h, rfl⟩
theorem rv_mo {id : Nat} {x : Value} (h : RV w F β (.mo id) x) : ∃ b c, β id = some (some (b, c)) ∧ x = .map (some b) := by
  cases h with
  | data h => cases h
  | mo _ b c h => exact ⟨b, c, h, rfl⟩
theorem rv_lref {sz : Nat} {es : List (List DV)} {i off : Nat} {x : Value} (h : RV w F β (.lref sz es i off) x) :
    ∃ b o cap, RD w F (.lst sz es) (.slice (some ⟨b, o, none⟩) es.length cap) ∧ i < es.length ∧ x = .pointer (some ⟨b, o + i * sz + off, none⟩) := by
  cases h with
  | data h => cases h
  | lref _ _ _ _ b o cap h hi => exact ⟨b, o, cap, h, hi, rfl⟩
theorem rv_lst {sz : Nat} {es : List (List DV)} {x : Value} (h : RV w F β (.lst sz es) x) :
    ∃ a cap, x = .slice a es.length cap ∧ RD w F (.lst sz es) (.slice a es.length cap) ∧ es.length ≤ cap ∧ cap ≤ maxLen ∧ (a = none → cap = 0) ∧ (es ≠ [] → ∃ b off, a = some ⟨b, off, none⟩) := by
  cases h with
  | data h =>
    have h' := h
    cases h with
    | lst sz es a b off cap g ha hn hc hm => exact ⟨a, cap, rfl, h', hc, hm, hn, fun he => ⟨b, off, ha he⟩⟩
theorem rv_arr {id len : Nat} {x : Value} (h : RV w F β (.arr id len) x) :
    (∃ b c, β id = some (some (b, c)) ∧ len ≤ c ∧ x = .slice (some ⟨b, 0, none⟩) len c) ∨ (β id = some none ∧ len = 0 ∧ x = .slice none 0 0) := by
  cases h with
  | data h => cases h
  | arr _ _ b c h hl => exact .inl ⟨b, c, h, hl, rfl⟩
  | arrNil _ h => exact .inr ⟨h, rfl, rfl⟩
theorem rv_sub {id off len : Nat} {x : Value} (h : RV w F β (.sub id off len) x) :
    ∃ a n, x = .slice a len n ∧ (0 < len → ∃ b c, β id = some (some (b, c)) ∧ a = some ⟨b, off, none⟩) ∧ (a = none → n = 0) ∧ len ≤ n := by
  cases h with
  | data h => cases h
  | sub _ _ _ a n h hn hl => exact ⟨a, n, rfl, h, hn, hl⟩
theorem rv_agg {ds : List DV} {x : Value} (h : RV w F β (.agg ds) x) :
    ∃ xs : List Value, x = .agg xs.toArray ∧ ds.length = xs.length ∧ ∀ (i : Nat) d y, ds[i]? = some d → xs[i]? = some y → RV w F β d y := by
  cases h with
  | data h => cases h
  | agg _ xs hl h => exact ⟨xs, rfl, hl, h⟩
theorem rv_tup {ds : List DV} {x : Value} (h : RV w F β (.tup ds) x) :
    ∃ xs : List Value, x = .tuple xs.toArray ∧ ds.length = xs.length ∧ ∀ (i : Nat) d y, ds[i]? = some d → xs[i]? = some y → RV w F β d y := by
  cases h with
  | data h => cases h
  | tup _ xs hl h => exact ⟨xs, rfl, hl, h⟩
theorem rv_clo {fn : Fn} {ds es : List DV} {x : Value} (h : RV w F β (.clo fn ds es) x) :
    ∃ xs ys : List Value, x = .func fn xs.toArray ys.toArray ∧ ds.length = xs.length ∧ es.length = ys.length ∧
      (∀ (i : Nat) d y, ds[i]? = some d → xs[i]? = some y → RV w F β d y) ∧ (∀ (i : Nat) d y, es[i]? = some d → ys[i]? = some y → RV w F β d y) := by
  cases h with
  | data h => cases h
  | clo _ _ _ xs ys hl hl' h h' => exact ⟨xs, ys, rfl, hl, hl', h, h'⟩
theorem rd_cells {sz : Nat} {es : List (List DV)} {b o cap : Nat} (h : RD w F (.lst sz es) (.slice (some ⟨b, o, none⟩) es.length cap)) {i : Nat} {cs : List DV} (hi : es[i]? = some cs) :
    cs.length = sz ∧ ∃ xs : List Value, xs.length = cs.length ∧ ∀ (j : Nat) d x, cs[j]? = some d → xs[j]? = some x → w.cell? ⟨b, o + i * sz + j, none⟩ = some x ∧ F b ∧ RD w F d x := by
  cases h with
  | lst _ _ _ b' off' _ g ha hn hc hm hsz hcell hd =>
    have hne : es ≠ [] := fun e => by subst e; simp at hi
    have := ha hne
    simp only [Option.some.injEq, Addr.mk.injEq, and_true] at this
    obtain ⟨rfl, rfl⟩ := this
    refine ⟨hsz i cs hi, (List.range cs.length).map (g i), by simp, fun j d x h1 h2 => ?_⟩
    obtain ⟨h3, h4⟩ := hcell i cs j d hi h1
    have hj := (List.getElem?_eq_some_iff.1 h1).1
    simp [hj] at h2
    subst h2
    exact ⟨h3, h4, hd i cs j d hi h1⟩
end
def tyLay (P : Program) (t : TypeId) : Option (Option Nat) :=
  match P.underlying t, P.info? t with
  | some (.struct _), some i | some (.array _ _), some i => some (some i.size)
  | some _, some _ => some none
  | _, _ => none
noncomputable def forceL {α : Type} (l : List α) : (List α → Prop) → Prop :=
  List.rec (motive := fun _ => (List α → Prop) → Prop) (fun K => K []) (fun x _ next K => next fun xs => K (x :: xs)) l
theorem forceL_eq {α : Type} (l : List α) : ∀ (K : List α → Prop), forceL l K = K l := by
  induction l with
  | nil => intro K; rfl
  | cons x l ih => intro K; exact ih _
def dcell (g : Bool) (cells : List DV) (off : Nat) (K : DV → Prop) : Prop := ∃ d, (g = true → cells[off]? = some d) ∧ K d
theorem dcell_ok {g : Bool} {cells : List DV} {off : Nat} {K : DV → Prop} {d : DV} (h : cells[off]? = some d) (hK : K d) : dcell g cells off K := ⟨d, fun _ => h, hK⟩
theorem dcell_at {g : Bool} {cells : List DV} {off : Nat} {K : DV → Prop} (d : DV) (h : g = true → cells[off]? = some d) (hK : K d) : dcell g cells off K := ⟨d, h, hK⟩
noncomputable def dload (P : Program) (t : TypeId) (cells : List DV) (off : Nat) (g : Bool) (K : DV → Prop) : Prop :=
  match tyLay P t with
  | some (some n) => (g = true → off + n ≤ cells.length) ∧ forceL ((cells.drop off).take n) fun cs => K (.agg cs)
  | some none => dcell g cells off K
  | none => False
theorem run_loadVar_agg {P : Program} {t : TypeId} {n : Nat} (h : tyLay P t = some (some n)) (w : World) (a : Addr) (xs : List Value) (hl : xs.length = n)
    (hx : ∀ (j : Nat) x, xs[j]? = some x → w.cell? (a.add j) = some x) : (loadVar t a).run P w = .ok (.agg xs.toArray) w := by
  unfold tyLay at h
  subst hl
  split at h
  all_goals first
    | (rename_i i h1 h2
       simp only [Option.some.injEq] at h
       have hr := run_loadCells_list (P := P) w a xs hx
       simp [loadVar, isAgg, run_underlying h1, sizeOf, typeInfo, h2, h, hr]
       done)
    | simp at h
theorem run_loadVar_one {P : Program} {t : TypeId} (h : tyLay P t = some none) (w : World) (a : Addr) (x : Value) (hx : w.cell? a = some x) : (loadVar t a).run P w = .ok x w := by
  unfold tyLay at h
  split at h
  · simp at h
  · simp at h
  · rename_i d i h1 h2 h3 h4
    have : (isAgg t).run P w = .ok false w := by
      unfold isAgg
      simp only [Sem.run_bind, run_underlying h3, Result.andThen_ok]
      rfl
    simp [loadVar, this, hx]
  · simp at h
theorem dload_sound {P : Program} {t : TypeId} {cells : List DV} {off : Nat} {g : Bool} {K : DV → Prop} (h : dload P t cells off g K) :
    ∃ d, K d ∧ (g = true → ∀ (w : World) F β b o (xs : List Value), (∀ (j : Nat) dj, cells[j]? = some dj → ∃ x, xs[j]? = some x ∧ w.cell? ⟨b, o + j, none⟩ = some x ∧ RV w F β dj x) →
      ∃ v, RV w F β d v ∧ ∀ w', (cells ≠ [] → w'.heap[b]? = w.heap[b]?) → (loadVar t ⟨b, o + off, none⟩).run P w' = .ok v w') := by
  unfold dload at h
  split at h
  · rename_i n hn
    obtain ⟨h1, h2⟩ := h
    rw [forceL_eq] at h2
    refine ⟨_, h2, fun hg w F β b o xs hx => ?_⟩
    have hle := h1 hg
    have hxs : ∀ j, j < n → ∃ x, xs[off + j]? = some x ∧ w.cell? ⟨b, o + (off + j), none⟩ = some x ∧ RV w F β (cells[off + j]?.getD .dead) x := fun j hj => by
      have hj' : off + j < cells.length := by omega
      have := hx (off + j) cells[off + j] (List.getElem?_eq_getElem hj')
      simpa [List.getElem?_eq_getElem hj'] using this
    have hlen : n ≤ (xs.drop off).length := by
      rcases Nat.eq_zero_or_pos n with rfl | hpos
      · omega
      · obtain ⟨x, hx1, _⟩ := hxs (n - 1) (by omega)
        have := (List.getElem?_eq_some_iff.1 hx1).1
        simp; omega
    have hget : ∀ (j : Nat) x, ((xs.drop off).take n)[j]? = some x → j < n ∧ xs[off + j]? = some x := fun j x h => by
      rw [List.getElem?_take] at h
      split at h
      · exact ⟨by assumption, by simpa [List.getElem?_drop] using h⟩
      · cases h
    refine ⟨.agg ((xs.drop off).take n).toArray, .agg _ _ ?_ (fun j d x hd hx2 => ?_), fun w' hb => run_loadVar_agg hn w' _ _ (by simp at hlen ⊢; omega) (fun j x hj => ?_)⟩
    · simp at hlen ⊢; omega
    · obtain ⟨hj, h3⟩ := hget j x hx2
      obtain ⟨y, h4, _, h6⟩ := hxs j hj
      rw [h3] at h4
      cases h4
      have : cells[off + j]? = some d := by
        rw [List.getElem?_take] at hd
        simpa [hj, List.getElem?_drop] using hd
      simpa [this] using h6
    · obtain ⟨hj', h3⟩ := hget j x hj
      obtain ⟨y, h4, h5, _⟩ := hxs j hj'
      rw [h3] at h4
      cases h4
      have hne : cells ≠ [] := fun e => by subst e; simp at hle; omega
      rw [Addr.add_lit, Nat.add_assoc, World.cell?_of_block (w := w) (a := ⟨b, _, none⟩) (hb hne)]
      exact h5
  · rename_i hn
    obtain ⟨d, h1, h2⟩ := h
    refine ⟨d, h2, fun hg w F β b o xs hx => ?_⟩
    obtain ⟨x, _, h4, h5⟩ := hx off d (h1 hg)
    have hne : cells ≠ [] := fun e => by subst e; have := h1 hg; simp at this
    refine ⟨x, h5, fun w' hb => run_loadVar_one hn w' _ _ ?_⟩
    rw [World.cell?_of_block (w := w) (a := ⟨b, _, none⟩) (hb hne)]
    exact h4
  · exact h.elim
end Go.Dl


