/-
  The data-level logic, part 3: the quiet operations ('dq') and their soundness ('dq_sound').
-/
import Derived.Test.YtlchjjchgebfiaaGreatDoorDp2

namespace Go.Dl
open Go Go.RowKit
def setMany : List DV → Nat → List DV → List DV
  | cells, _, [] => cells
  | cells, off, d :: ds => setMany (cells.set off d) (off + 1) ds
def cellsOfDV : DV → Option (List DV)
  | .agg cs => some cs
  | .dead | .when _ _ => none
  | d => some [d]
def zeroDV (P : Program) (t : TypeId) : Option (List DV) :=
  match (P.info? t).bind (·.zero) with
  | some z => if z.cells.toList.all Value.oneCell' then some (z.cells.toList.map .v) else none
  | none => none
def fldPlaces (P : Program) (t : TypeId) : Option (List (Nat × Nat)) :=
  match P.underlying t with
  | some (.struct fs) => if fs.toList.all (fun f => (P.info? f.type).isSome) then some (fs.toList.map fun f => (f.offset, P.cellsOf f.type)) else none
  | _ => none
def slElem (P : Program) (t : TypeId) : Option Nat :=
  match P.underlying t with
  | some (.slice e) => (P.info? e).map (·.size)
  | _ => none
def arElem (P : Program) (t : TypeId) : Option (Nat × Nat) :=
  match P.underlying t with
  | some (.array n e) => (P.info? e).map fun i => (n, i.size)
  | _ => none
def evb (ρ : Operand → DV) (g : Bool) : Option Operand → Int → (Int → Prop) → Prop
  | none, z, K => K z
  | some x, _, K => evg g (ρ x) fun | .v (.int _ i) => K i | _ => False
def capB (s : Sto) (id sz h : Nat) : Bool := match s.ob id with | some o => o.sz == sz && decide (0 < sz) && decide (h * sz ≤ o.cells.length) | none => false
noncomputable def dfill (ρ : Operand → DV) (g : Bool) (place : Nat → Option (Nat × Nat)) (parts : List (Nat × Operand)) : List DV → (List DV → Prop) → Prop :=
  List.rec (motive := fun _ => List DV → (List DV → Prop) → Prop) (fun cells K => K cells)
    (fun p _ next cells K => match place p.1 with
      | none => False
      | some pl => evg g (ρ p.2) fun d => (match cellsOfDV d with
        | some ds => (g = true → ds.length = pl.2 ∧ pl.1 + pl.2 ≤ cells.length) ∧ forceL (setMany cells pl.1 ds) fun cells => next cells K
        | none => False)) parts
def dqCall (P : Program) (s : Sto) (ρ : Operand → DV) (g : Bool) (c : Call) (K : DV → Prop) : Prop :=
  match c.callee, c.args.toList, c.argTypes.toList with
  | .builtin .len, [x], [t] => evg g (ρ x) fun
    | .v u => (match u with
      | .string s => (g = true → isStr P t = true) ∧ K (.v (.int .i64 s.size))
      | .slice _ n _ => (g = true → (slElem P t).isSome = true) ∧ K (.v (.int .i64 n))
      | _ => False)
    | .lst _ es => (g = true → (slElem P t).isSome = true) ∧ K (.v (.int .i64 es.length))
    | .arr _ len => (g = true → (slElem P t).isSome = true) ∧ K (.v (.int .i64 len))
    | .sub _ _ len => (g = true → (slElem P t).isSome = true) ∧ K (.v (.int .i64 len))
    | _ => False
  | .builtin .min, [x, y], _ => evg g (ρ x) fun dx => evg g (ρ y) fun dy => (match dx, dy with
    | .v (.int k a), .v (.int _ b) => K (.v (.int k (if b < a then b else a)))
    | _, _ => False)
  | .builtin .max, [x, y], _ => evg g (ρ x) fun dx => evg g (ρ y) fun dy => (match dx, dy with
    | .v (.int k a), .v (.int _ b) => K (.v (.int k (if a < b then b else a)))
    | _, _ => False)
  | _, _, _ => ∃ d, (g = true → QSem P s (.call c) ρ d) ∧ K d
def dloadE (P : Program) (t : TypeId) (es : List (List DV)) (i off : Nat) (g : Bool) (K : DV → Prop) : Prop :=
  ∃ cells, (g = true → cells = es.getD i []) ∧ dload P t cells off g K
theorem dloadE_go {P : Program} {t : TypeId} {es : List (List DV)} {i off : Nat} {g : Bool} {K : DV → Prop} (h : dload P t (es.getD i []) off g K) : dloadE P t es i off g K := ⟨_, fun _ => rfl, h⟩
theorem dloadE_map {α : Type} {P : Program} {t : TypeId} {ls : List α} {f : α → List DV} {i off : Nat} {g : Bool} {K : DV → Prop} (d : α) (hi : g = true → i < ls.length) (h : dload P t (f (ls.getD i d)) off g K) : dloadE P t (ls.map f) i off g K :=
  ⟨_, fun hg => by simp [List.getD_eq_getElem?_getD, List.getElem?_eq_getElem (hi hg)], h⟩
def forceN (n : Nat) (K : Nat → Prop) : Prop :=
  match n with
  | 0 => K 0
  | 1 => K 1
  | 2 => K 2
  | 3 => K 3
  | 4 => K 4
  | 5 => K 5
  | 6 => K 6
  | 7 => K 7
  | 8 => K 8
  | n => K n
theorem forceN_eq (n : Nat) (K : Nat → Prop) : forceN n K = K n := by unfold forceN; split <;> rfl
def darr (g : Bool) (i : Int) (len : Nat) (K : Nat → Prop) : Prop := (g = true → 0 ≤ i ∧ i < len) ∧ K i.toNat
noncomputable def dq (P : Program) (s : Sto) (ρ : Operand → DV) (g : Bool) : Op → (DV → Prop) → Prop
  | .move x, K | .assign x, K => K (ρ x)
  | .pick c a b, K => evg g (ρ c) fun
    | .v (.bool t) => evg (g && t) (ρ a) fun da => evg (g && !t) (ρ b) fun db => (match da, db with
      | .v (.bool x), .v (.bool y) => K (.v (.bool (bif t then x else y)))
      | _, _ => (t = true → K da) ∧ (t = false → K db))
    | _ => False
  | .load t x, K => evg g (ρ x) fun
    | .ref id off => (match s.ob id with | some o => cellsO o.elem (dload P t o.cells off g K) | none => False)
    | .lref _ es i off => dloadE P t es i off g K
    | _ => False
  | .nilCheck x, K => evg g (ρ x) fun
    | .ref id off => K (.ref id off)
    | .lref sz es i off => K (.lref sz es i off)
    | .clo (.func f) a b => K (.clo (.func f) a b)
    | _ => False
  | .binOp op t x y _, K => evg g (ρ x) fun dx => evg g (ρ y) fun dy => (match dx, dy with
    | .v (.int _ _), .v (.int _ _) | .v (.string _), .v (.string _) => dbin op g dx dy K
    | .v (.bool a), .v (.bool b) => (match op with
      | .eql => (g = true → isBoolT P t = true) ∧ K (.v (.bool (a == b)))
      | .neq => (g = true → isBoolT P t = true) ∧ K (.v (.bool (a != b)))
      | _ => False)
    | _, _ => ∃ d, (g = true → QSem P s (.binOp op t x y 0) ρ d) ∧ K d)
  | .unOp op _ x, K => evg g (ρ x) fun dx => (match op, dx with
    | .not, .v (.bool b) => K (.v (.bool (!b)))
    | .neg, .v (.int k n) => K (.v (.int k (k.wrap (0 - n))))
    | _, _ => g = false ∧ K .dead)
  | .convert src dst x, K => evg g (ρ x) fun
    | .v (.int _ n) => (match intK P dst with | some k => (g = true → isKnown P src = true) ∧ K (.v (.int k (k.wrap n))) | none => False)
    | .v (.string s) => (g = true → isStr P dst = true ∧ isStr P src = true) ∧ K (.v (.string s))
    | _ => ∃ d, (g = true → QSem P s (.convert src dst x) ρ d) ∧ K d
  | .fieldAddr t x f, K => (match fldOff P t f with
    | some fo => evg g (ρ x) fun
      | .ref id off => K (.ref id (off + fo))
      | .lref sz es i off => K (.lref sz es i (off + fo))
      | _ => False
    | none => False)
  | .indexAddr t x ix, K => evg g (ρ x) fun dx => evg g (ρ ix) fun dix => (match dx, dix with
    | .lst sz es, .v (.int _ i) => (g = true → slElem P t = some sz ∧ 0 ≤ i ∧ i < es.length) ∧ K (.lref sz es i.toNat 0)
    | .arr id len, .v (.int _ i) => (match slElem P t with | some sz => forceN sz fun sz => darr g i len fun m => K (.ref id (m * sz)) | none => False)
    | .sub id off len, .v (.int _ i) => (match slElem P t with | some sz => forceN sz fun sz => darr g i len fun m => K (.ref id (off + m * sz)) | none => False)
    | .ref id off, .v (.int _ i) => (match arElem P t with | some (n, sz) => forceN sz fun sz => darr g i n fun m => K (.ref id (off + m * sz)) | none => False)
    | _, _ => False)
  | .index t x ix, K => evg g (ρ x) fun dx => evg g (ρ ix) fun dix => (match dx, dix with
    | .v (.string s), .v (.int _ i) => (g = true → isStr P t = true ∧ 0 ≤ i ∧ i < s.size) ∧ K (.v (.int .u8 (byteAt s i.toNat)))
    | _, _ => False)
  | .slice t x lo hi none, K => evg g (ρ x) fun
    | .v (.string s) => evb ρ g lo 0 fun l => evb ρ g hi s.size fun h =>
      (g = true → isStr P t = true ∧ 0 ≤ l ∧ l ≤ h ∧ h ≤ s.size) ∧ K (.v (.string (s.extract l.toNat h.toNat)))
    | .lst sz es => evb ρ g lo 0 fun l => evb ρ g hi es.length fun h =>
      (g = true → slElem P t = some sz ∧ 0 ≤ l ∧ l ≤ h ∧ h ≤ es.length) ∧ K (.lst sz ((es.take h.toNat).drop l.toNat))
    | .arr id len => (match lo with
      | none => evb ρ g hi len fun h => (g = true → (slElem P t).isSome = true ∧ 0 ≤ h ∧ h ≤ len) ∧ K (.arr id h.toNat)
      | some lo => evb ρ g (some lo) 0 fun l => evb ρ g hi len fun h => (match slElem P t with
        | some sz => (g = true → 0 ≤ l ∧ l ≤ h ∧ (h ≤ len ∨ capB s id sz h.toNat = true)) ∧ K (.sub id (l.toNat * sz) (h - l).toNat)
        | none => False))
    | .sub id off len => evb ρ g lo 0 fun l => evb ρ g hi len fun h => (match slElem P t with
      | some sz => (g = true → 0 ≤ l ∧ l ≤ h ∧ h ≤ len) ∧ K (.sub id (off + l.toNat * sz) (h - l).toNat)
      | none => False)
    | _ => False
  | .slice t x lo hi (some mx), K => evg g (ρ x) fun
    | .lst sz es => evb ρ g lo 0 fun l => evb ρ g hi es.length fun h => evb ρ g (some mx) 0 fun m =>
      (g = true → hi.isSome = true ∧ slElem P t = some sz ∧ 0 ≤ l ∧ l ≤ h ∧ h ≤ m ∧ m ≤ es.length) ∧ K (.lst sz ((es.take h.toNat).drop l.toNat))
    | .arr id len => evb ρ g lo 0 fun l => evb ρ g hi len fun h => evb ρ g (some mx) 0 fun m => (match slElem P t with
      | some sz => (g = true → hi.isSome = true ∧ 0 ≤ l ∧ l ≤ h ∧ h ≤ m ∧ m ≤ len) ∧ K (.sub id (l.toNat * sz) (h - l).toNat)
      | none => False)
    | .sub id off len => evb ρ g lo 0 fun l => evb ρ g hi len fun h => evb ρ g (some mx) 0 fun m => (match slElem P t with
      | some sz => (g = true → hi.isSome = true ∧ 0 ≤ l ∧ l ≤ h ∧ h ≤ m ∧ m ≤ len) ∧ K (.sub id (off + l.toNat * sz) (h - l).toNat)
      | none => False)
    | _ => False
  | .extract x i, K => evg g (ρ x) fun
    | .tup ds => (g = true → i < ds.length) ∧ K (ds.getD i .dead)
    | _ => False
  | .makeInterface t x, K => (g = true → isKnown P t = true ∧ (P.underlying t).all (fun | .interface _ => false | _ => true) = true) ∧ K (.ifc t (ρ x))
  | .makeFunc fn first captured, K => K (.clo fn (first.toList.map ρ) (captured.toList.map ρ))
  | .build t parts, K => (match zeroDV P t, fldPlaces P t, arElem P t with
    | some z, some pl, _ => dfill ρ g (fun i => pl[i]?) parts.toList z fun cs => forceL cs fun cs => K (.agg cs)
    | some z, none, some (_, sz) => forceN sz fun sz => dfill ρ g (fun i => some (i * sz, sz)) parts.toList z fun cs => forceL cs fun cs => K (.agg cs)
    | _, _, _ => False)
  | .call c, K => dqCall P s ρ g c K
  | op, K => ∃ d, (g = true → QSem P s op ρ d) ∧ K d
theorem binOp_bool_eql {P : Program} {t : TypeId} (h : isBoolT P t = true) (a b : Bool) (w : World) : (binOp .eql t (.bool a) (.bool b)).run P w = .ok (.bool (a == b)) w := by
  unfold isBoolT at h
  split at h
  · rename_i h1
    simp only [binOp, Op.equal, Op.maxDepth, Sem.run_bind, run_equalIn_bool w 9999 t a b h1, Result.andThen_ok, Sem.run_pure]
  · cases h
theorem binOp_bool_neq {P : Program} {t : TypeId} (h : isBoolT P t = true) (a b : Bool) (w : World) : (binOp .neq t (.bool a) (.bool b)).run P w = .ok (.bool (a != b)) w := by
  unfold isBoolT at h
  split at h
  · rename_i h1
    simp only [binOp, Op.equal, Op.maxDepth, Sem.run_bind, run_equalIn_bool w 9999 t a b h1, Result.andThen_ok, Sem.run_pure, bne]
  · cases h
section
variable {P : Program} {s : Sto} {ρ : Operand → DV} {g : Bool} {K : DV → Prop}
theorem sound_pick {c x y : Operand} (h : dq P s ρ g (.pick c x y) K) : ∃ d, K d ∧ (g = true → QSem P s (.pick c x y) ρ d) := by
  simp only [dq] at h
  obtain ⟨dc, h, hc⟩ := evg_sound _ h
  split at h
  · rename_i t
    obtain ⟨da, h, ha⟩ := evg_sound _ h
    obtain ⟨db, h, hb⟩ := evg_sound _ h
    have key : ∀ (d : DV), (g = true → t = true → ∀ w F β x, RV w F β da x → RV w F β d x) → (g = true → t = false → ∀ w F β x, RV w F β db x → RV w F β d x) → K d →
        ∃ d, K d ∧ (g = true → QSem P s (.pick c x y) ρ d) := fun d h1 h2 hK => by
      refine ⟨d, hK, fun hg w0 F0 β w a hs hρ => ?_⟩
      have e := rv_v (hc hg _ _ _ _ (hρ c))
      refine ⟨if t then a.eval x else a.eval y, ?_, fun o w' ho _ => ?_⟩
      · cases t with
        | true => exact h1 hg rfl _ _ _ _ (ha (by simp [hg]) _ _ _ _ (hρ x))
        | false => exact h2 hg rfl _ _ _ _ (hb (by simp [hg]) _ _ _ _ (hρ y))
      · have e' : a.eval c = .bool t := e
        simp only [execOp, ho, Sem.run_bind, e', asBool, Sem.run_pure, Result.andThen_ok]
    split at h
    · rename_i u v
      refine key _ (fun _ ht w F β x hx => ?_) (fun _ ht w F β x hx => ?_) h <;> (rw [rv_v hx, ht]; exact .data (.v _ rfl))
    · cases t with
      | true => exact key da (fun _ _ _ _ _ _ h => h) (fun _ e => by cases e) (h.1 rfl)
      | false => exact key db (fun _ e => by cases e) (fun _ _ _ _ _ _ h => h) (h.2 rfl)
  · exact h.elim
theorem sound_load {t : TypeId} {x : Operand} (h : dq P s ρ g (.load t x) K) : ∃ d, K d ∧ (g = true → QSem P s (.load t x) ρ d) := by
  simp only [dq] at h
  obtain ⟨dx, h, hx⟩ := evg_sound _ h
  split at h
  · rename_i id off
    split at h
    · rename_i ob hob
      obtain ⟨hm, h⟩ := cellsO_is h
      obtain ⟨d, h1, h2⟩ := dload_sound h
      refine ⟨d, h1, fun hg w0 F0 β w a hs hρ => ?_⟩
      obtain ⟨b, c, hb, he⟩ := rv_ref (hx hg _ _ _ _ (hρ x))
      rcases hs id ob hob with h3 | ⟨b', c', cur, g1, g2, g3, g4, g5, g6, g7⟩
      · rw [h3.1] at hb; cases hb
      rw [g1] at hb
      simp only [Option.some.injEq, Prod.mk.injEq] at hb
      obtain ⟨rfl, rfl⟩ := hb
      rw [blk_cells hm] at g3
      obtain ⟨v, hv, hr⟩ := h2 hg w F0 β b' 0 cur.toList (fun j dj hj => by
        obtain ⟨y, hy, hry⟩ := g7 j dj hj
        exact ⟨y, by simpa using hy, by simpa [World.cell?, g3] using hy, hry⟩)
      refine ⟨v, hv, fun o w' ho hb => ?_⟩
      have := hr w' (fun _ => hb b' (Array.getElem?_eq_some_iff.1 g3).1 (.inr ⟨id, ob, c', hob, g1⟩))
      simp only [Nat.zero_add] at this
      simp only [execOp, ho, he, Instr.loadAt, Instr.sureAddr, Sem.run_bind, Sem.run_pure, Result.andThen_ok, this]
    · exact h.elim
  · rename_i sz es i off
    obtain ⟨cells, hcells, h⟩ := h
    obtain ⟨d, h1, h2⟩ := dload_sound h
    refine ⟨d, h1, fun hg w0 F0 β w a hs hρ => ?_⟩
    obtain ⟨b, o, cap, hrd, hi, he⟩ := rv_lref (hx hg _ _ _ _ (hρ x))
    rw [hcells hg] at h2
    obtain ⟨hlen, xs, hxs, hcell⟩ := rd_cells hrd (List.getElem?_eq_getElem hi)
    obtain ⟨v, hv, hr⟩ := h2 hg w F0 β b (o + i * sz) xs (fun j dj hj => by
      have hj' : es[i][j]? = some dj := by simpa [List.getD_eq_getElem?_getD, List.getElem?_eq_getElem hi] using hj
      have hjl : j < xs.length := by rw [hxs]; exact (List.getElem?_eq_some_iff.1 hj').1
      obtain ⟨k1, _, k3⟩ := hcell j dj xs[j] hj' (List.getElem?_eq_getElem hjl)
      exact ⟨xs[j], List.getElem?_eq_getElem hjl, k1, .data k3⟩)
    refine ⟨v, hv, fun op w' ho hb => ?_⟩
    have hb' : es.getD i [] ≠ [] → w'.heap[b]? = w.heap[b]? := fun hne => by
      rw [List.getD_eq_getElem?_getD, List.getElem?_eq_getElem hi, Option.getD_some] at hne
      cases hei : es[i] with
      | nil => exact absurd hei hne
      | cons d ds =>
        have h0 : es[i][0]? = some d := by rw [hei]; rfl
        have hx0 : 0 < xs.length := by rw [hxs, hei]; simp
        obtain ⟨k1, k2, _⟩ := hcell 0 d xs[0] h0 (List.getElem?_eq_getElem hx0)
        exact hb b (World.block_lt_of_cell? w _ k1) (.inl k2)
    simp only [execOp, ho, he, Instr.loadAt, Instr.sureAddr, Sem.run_bind, Sem.run_pure, Result.andThen_ok, hr w' hb']
  · exact h.elim
theorem sound_nilCheck {x : Operand} (h : dq P s ρ g (.nilCheck x) K) : ∃ d, K d ∧ (g = true → QSem P s (.nilCheck x) ρ d) := by
  simp only [dq] at h
  obtain ⟨dx, h, hx⟩ := evg_sound _ h
  split at h
  · refine ⟨_, h, fun hg w0 F0 β w a hs hρ => ?_⟩
    have hv := hx hg _ _ _ _ (hρ x)
    obtain ⟨b, c, hb, he⟩ := rv_ref hv
    exact ⟨a.eval x, hv, fun o w' ho _ => by simp only [execOp, ho, he]; rfl⟩
  · refine ⟨_, h, fun hg w0 F0 β w a hs hρ => ?_⟩
    have hv := hx hg _ _ _ _ (hρ x)
    obtain ⟨b, o, cap, hrd, hi, he⟩ := rv_lref hv
    exact ⟨a.eval x, hv, fun o w' ho _ => by simp only [execOp, ho, he]; rfl⟩
  · refine ⟨_, h, fun hg w0 F0 β w a hs hρ => ?_⟩
    have hv := hx hg _ _ _ _ (hρ x)
    obtain ⟨xs, ys, he, _⟩ := rv_clo hv
    exact ⟨a.eval x, hv, fun o w' ho _ => by simp only [execOp, ho, he]; rfl⟩
  · exact h.elim
theorem sound_binOp {op : BinOp} {t yt : TypeId} {x y : Operand} (h : dq P s ρ g (.binOp op t x y yt) K) : ∃ d, K d ∧ (g = true → QSem P s (.binOp op t x y yt) ρ d) := by
  simp only [dq] at h
  obtain ⟨dx, h, hx⟩ := evg_sound _ h
  obtain ⟨dy, h, hy⟩ := evg_sound _ h
  have main : dbin op g dx dy K → ∃ d, K d ∧ (g = true → QSem P s (.binOp op t x y yt) ρ d) := fun h => by
    obtain ⟨d, h1, h2⟩ := dbin_sound (P := P) (t := t) h
    refine ⟨d, h1, fun hg w0 F0 β w a hs hρ => ?_⟩
    obtain ⟨v, hv, hr⟩ := h2 hg _ _ _ x y _ _ (hx hg _ _ _ _ (hρ x)) (hy hg _ _ _ _ (hρ y))
    exact ⟨v, hv, fun o w' ho _ => by
      have := hr w'
      simp only [execOp, ho, Sem.run_bind] at this ⊢
      rw [this]; rfl⟩
  split at h
  · exact main h
  · exact main h
  · split at h
    · obtain ⟨h1, h2⟩ := h
      refine ⟨_, h2, fun hg w0 F0 β w a hs hρ => ⟨_, .data (.v _ rfl), fun o w' ho _ => ?_⟩⟩
      have e1 := rv_v (hx hg _ _ _ _ (hρ x))
      have e2 := rv_v (hy hg _ _ _ _ (hρ y))
      simp only [execOp, ho, e1, e2, Sem.run_bind, eqGuard_at_bool, Sem.run_pure, Result.andThen_ok, binOp_bool_eql (h1 hg)]
    · obtain ⟨h1, h2⟩ := h
      refine ⟨_, h2, fun hg w0 F0 β w a hs hρ => ⟨_, .data (.v _ rfl), fun o w' ho _ => ?_⟩⟩
      have e1 := rv_v (hx hg _ _ _ _ (hρ x))
      have e2 := rv_v (hy hg _ _ _ _ (hρ y))
      simp only [execOp, ho, e1, e2, Sem.run_bind, eqGuard_at_bool, Sem.run_pure, Result.andThen_ok, binOp_bool_neq (h1 hg)]
    · exact h.elim
  · obtain ⟨d, h1, h2⟩ := h
    refine ⟨d, h2, fun hg w0 F0 β w a hs hρ => ?_⟩
    obtain ⟨v, hv, hr⟩ := h1 hg w0 F0 β w a hs hρ
    refine ⟨v, hv, fun o w' ho hb => ?_⟩
    have := hr { o with op := .binOp op t x y 0 } w' rfl hb
    simp only [execOp, ho] at this ⊢
    exact this
theorem sound_unOp {op : UnOp} {t : TypeId} {x : Operand} (h : dq P s ρ g (.unOp op t x) K) : ∃ d, K d ∧ (g = true → QSem P s (.unOp op t x) ρ d) := by
  simp only [dq] at h
  obtain ⟨dx, h, hx⟩ := evg_sound _ h
  split at h
  · refine ⟨_, h, fun hg w0 F0 β w a hs hρ => ⟨_, .data (.v _ rfl), fun o w' ho _ => ?_⟩⟩
    have e1 := rv_v (hx hg _ _ _ _ (hρ x))
    simp only [execOp, ho, e1, Op.unary, Sem.run_bind, Sem.run_pure, Result.andThen_ok]
  · refine ⟨_, h, fun hg w0 F0 β w a hs hρ => ⟨_, .data (.v _ rfl), fun o w' ho _ => ?_⟩⟩
    have e1 := rv_v (hx hg _ _ _ _ (hρ x))
    simp only [execOp, ho, e1, Op.unary, Op.intArith, Sem.run_bind, Sem.run_pure, Result.andThen_ok]
  · exact ⟨.dead, h.2, fun hg => by rw [h.1] at hg; cases hg⟩
theorem sound_convert {src dst : TypeId} {x : Operand} (h : dq P s ρ g (.convert src dst x) K) : ∃ d, K d ∧ (g = true → QSem P s (.convert src dst x) ρ d) := by
  simp only [dq] at h
  obtain ⟨dx, h, hx⟩ := evg_sound _ h
  split at h
  · split at h
    · rename_i k hk
      obtain ⟨h1, h2⟩ := h
      refine ⟨_, h2, fun hg w0 F0 β w a hs hρ => ⟨_, .data (.v _ rfl), fun o w' ho _ => ?_⟩⟩
      have e1 := rv_v (hx hg _ _ _ _ (hρ x))
      obtain ⟨ds, hds⟩ := Option.isSome_iff_exists.1 (h1 hg)
      have hd : P.underlying dst = some (.int k) := by
        unfold intK at hk
        split at hk
        · rename_i k' hk'; cases hk; exact hk'
        · cases hk
      simp only [execOp, ho, e1, convert, Sem.run_bind, run_underlying hds, run_underlying hd, Result.andThen_ok, Conv.intToInt, Sem.run_pure]
    · exact h.elim
  · obtain ⟨h1, h2⟩ := h
    refine ⟨_, h2, fun hg w0 F0 β w a hs hρ => ⟨_, .data (.v _ rfl), fun o w' ho _ => ?_⟩⟩
    have e1 := rv_v (hx hg _ _ _ _ (hρ x))
    have hst : ∀ t, isStr P t = true → P.underlying t = some .string := fun t h => by
      unfold isStr at h
      split at h
      · assumption
      · cases h
    simp only [execOp, ho, e1, convert, Sem.run_bind, run_underlying (hst _ (h1 hg).1), run_underlying (hst _ (h1 hg).2), Result.andThen_ok, Sem.run_pure]
  · obtain ⟨d, h1, h2⟩ := h
    exact ⟨d, h2, h1⟩
end
end Go.Dl


