/-
  The data-level logic, part 11: what closes a walk; what is not to be unfolded.
-/
import Derived.Test.YtlchjjchgebfiaaGreatDoorDp10

namespace Go.Dl
open Go Go.RowKit
theorem dvb {b b' : Bool} (h : b = b') : DV.v (.bool b) = DV.v (.bool b') := by rw [h]
theorem dvi {k : IntKind} {b b' : Int} (h : b = b') : DV.v (.int k b) = DV.v (.int k b') := by rw [h]
theorem DFun.body [Inhabited GlobS] {P : Program} {f : FuncId} {fn : Func} {c : Code} {args : List DV} {Q : DV → Sto → Prop} (hf : P.funcs[f]? = some fn) (hb : fn.body = some c)
    (hk : (decide (args.length ≤ fn.ntmps) && codeOk P fn.ntmps c) = true)
    (h : dcode P fn.ntmps noY c ⟨0, entryTm 0 args (fun _ => .dead), .empty⟩ (dend P fn.results.toList Q)) : DFun P f args Q := by
  simp only [Bool.and_eq_true, decide_eq_true_eq] at hk
  exact .run hf hb hk.1 hk.2 h
theorem PCall.mk [Inhabited GlobS] {P : Program} {f : FuncId} {args args' : List DV} {s : Sto} {g : Bool} {K : DV → Prop} {r : DV} (h : DPure P f args' r) (hl : args.mapM (lend s) = some args') (hr : scal r = true) (hK : K r) : PCall P f args s g K :=
  ⟨r, fun _ => ⟨hr, fun _ _ _ _ _ hs hx => pcall_sound hr hl h hs hx⟩, hK⟩
inductive CK where
  | int | bool | str
  deriving DecidableEq
def eqFieldsK (P : Program) (r : TypeId → Option (List CK)) : List Field → Nat → Option (List CK)
  | [], _ => some []
  | f :: fs, off =>
    if f.name = "_" ∨ f.offset ≠ off then none else
    match r f.type, tyLay P f.type with
    | some ks, some l => if l.getD 1 = ks.length ∧ ks.length ≠ 0 then (eqFieldsK P r fs (off + ks.length)).map (ks ++ ·) else none
    | _, _ => none
def eqKinds (P : Program) : Nat → TypeId → Option (List CK)
  | 0, _ => none
  | d + 1, t => match P.underlying t with
    | some (.int _) => some [.int]
    | some .bool => some [.bool]
    | some .string => some [.str]
    | some (.struct fs) => if P.stoodInHeld t = true then none else eqFieldsK P (eqKinds P d) fs.toList 0
    | _ => none
def Typed : List CK → List Value → List Value → Prop
  | [], [], [] => True
  | .int :: ks, .int k _ :: xs, .int k' _ :: ys => k = k' ∧ Typed ks xs ys
  | .bool :: ks, .bool _ :: xs, .bool _ :: ys => Typed ks xs ys
  | .str :: ks, .string _ :: xs, .string _ :: ys => Typed ks xs ys
  | _, _, _ => False
def cellEqV : Value → Value → Bool
  | .int _ a, .int _ b => a == b
  | .bool a, .bool b => a == b
  | .string a, .string b => a == b
  | _, _ => true
def cellsEqV : List Value → List Value → Bool
  | x :: xs, y :: ys => cellEqV x y && cellsEqV xs ys
  | _, _ => true
theorem Typed.split (ks : List CK) : ∀ {ks' : List CK} {xs ys : List Value}, Typed (ks ++ ks') xs ys →
    Typed ks (xs.take ks.length) (ys.take ks.length) ∧ Typed ks' (xs.drop ks.length) (ys.drop ks.length) ∧
      cellsEqV xs ys = (cellsEqV (xs.take ks.length) (ys.take ks.length) && cellsEqV (xs.drop ks.length) (ys.drop ks.length)) ∧ ks.length ≤ xs.length ∧ ks.length ≤ ys.length := by
  induction ks with
  | nil => intro ks' xs ys h; exact ⟨by simp [Typed], by simpa using h, by simp [cellsEqV], by simp, by simp⟩
  | cons c ks ih =>
    intro ks' xs ys h
    cases xs with
    | nil => cases c <;> exact h.elim
    | cons x xs =>
      cases ys with
      | nil => cases c <;> cases x <;> exact h.elim
      | cons y ys =>
        cases c <;> cases x <;> first | exact h.elim | skip
        all_goals cases y <;> first | exact h.elim | skip
        case int k a k' b =>
          obtain ⟨h1, h2⟩ := h
          obtain ⟨i1, i2, i3, i4, i5⟩ := ih h2
          exact ⟨⟨h1, i1⟩, i2, by simp only [cellsEqV, List.length_cons, List.take_succ_cons, List.drop_succ_cons, i3, Bool.and_assoc], by simp only [List.length_cons]; omega, by simp only [List.length_cons]; omega⟩
        all_goals
          obtain ⟨i1, i2, i3, i4, i5⟩ := ih h
          exact ⟨i1, i2, by simp only [cellsEqV, List.length_cons, List.take_succ_cons, List.drop_succ_cons, i3, Bool.and_assoc], by simp only [List.length_cons]; omega, by simp only [List.length_cons]; omega⟩
theorem Typed.len (ks : List CK) : ∀ {xs ys : List Value}, Typed ks xs ys → xs.length = ks.length ∧ ys.length = ks.length := by
  intro xs ys h
  have h' : Typed (ks ++ []) xs ys := by simpa using h
  obtain ⟨_, h2, _, h4, h5⟩ := h'.split ks
  have : xs.drop ks.length = [] ∧ ys.drop ks.length = [] := by
    generalize xs.drop ks.length = X at h2
    generalize ys.drop ks.length = Y at h2
    cases X <;> cases Y <;> first | exact ⟨rfl, rfl⟩ | exact h2.elim
  simp only [List.drop_eq_nil_iff] at this
  omega
theorem Typed.one {c : CK} {xs ys : List Value} (h : Typed [c] xs ys) : ∃ x y, xs = [x] ∧ ys = [y] := by
  obtain ⟨h1, h2⟩ := h.len
  match xs, ys, h1, h2 with
  | [x], [y], _, _ => exact ⟨x, y, rfl, rfl⟩
theorem tyLay_struct {P : Program} {t : TypeId} {fs : Array Field} {l : Option Nat} (hu : P.underlying t = some (.struct fs)) (hl : tyLay P t = some l) : ∃ n, l = some n := by
  unfold tyLay at hl
  rw [hu] at hl
  cases hi : P.info? t with
  | none => simp [hi] at hl
  | some i => simp [hi] at hl; exact ⟨_, hl.symm⟩
def fval (l : Option Nat) (xs : List Value) : Value := match l with | some _ => .agg xs.toArray | none => xs.getD 0 undef
theorem part_run {P : Program} {t : TypeId} {l : Option Nat} (h : tyLay P t = some l) (xs : List Value) (off : Nat) (hl : off + l.getD 1 ≤ xs.length) (w : World) :
    (part t xs.toArray off).run P w = .ok (fval l ((xs.drop off).take (l.getD 1))) w := by
  unfold tyLay at h
  split at h
  · rename_i i h1 h2
    cases h
    simp only [Option.getD_some] at hl ⊢
    have e : xs.toArray.extract off (off + i.size) = ((xs.drop off).take i.size).toArray := by simp
    simp only [part, isAgg, Sem.run_bind, run_underlying h1, Result.andThen_ok, Sem.run_pure, if_true, run_sizeOf h2, e]
    rfl
  · rename_i i h1 h2
    cases h
    simp only [Option.getD_some] at hl ⊢
    have e : xs.toArray.extract off (off + i.size) = ((xs.drop off).take i.size).toArray := by simp
    simp only [part, isAgg, Sem.run_bind, run_underlying h1, Result.andThen_ok, Sem.run_pure, if_true, run_sizeOf h2, e]
    rfl
  · rename_i d i h1 h2 h3 h4
    cases h
    simp only [Option.getD_none] at hl ⊢
    have hag : (isAgg t).run P w = .ok false w := by
      unfold isAgg
      simp only [Sem.run_bind, run_underlying h3, Result.andThen_ok]
      rfl
    have e : xs.toArray[off]? = some xs[off] := by rw [List.getElem?_toArray]; exact List.getElem?_eq_getElem (by omega)
    have e2 : fval none ((xs.drop off).take 1) = xs[off] := by
      unfold fval
      simp [List.getD_eq_getElem?_getD, List.getElem?_eq_getElem (show off < xs.length by omega)]
    simp only [part, Sem.run_bind, hag, Result.andThen_ok, Bool.false_eq_true, if_false, e, Sem.run_pure, e2]
  · cases h
theorem eqFields_run {P : Program} {D : Nat} {r : TypeId → Option (List CK)} (hr : ∀ t ks l, r t = some ks → tyLay P t = some l → ∀ xs ys w, Typed ks xs ys → (Op.equalIn D t (fval l xs) (fval l ys)).run P w = .ok (cellsEqV xs ys) w)
    (xs ys : List Value) (w : World) (fs : List Field) : ∀ (off : Nat) (ks : List CK), eqFieldsK P r fs off = some ks → Typed ks (xs.drop off) (ys.drop off) →
      (Op.eqFields D xs.toArray ys.toArray fs).run P w = .ok (cellsEqV (xs.drop off) (ys.drop off)) w := by
  induction fs with
  | nil =>
    intro off ks h ht
    simp only [eqFieldsK, Option.some.injEq] at h
    subst h
    generalize xs.drop off = X at *
    generalize ys.drop off = Y at *
    cases X with
    | nil => simp [Op.eqFields, cellsEqV]
    | cons => cases Y <;> exact ht.elim
  | cons f fs ih =>
    intro off ks h ht
    simp only [eqFieldsK] at h
    split at h
    · cases h
    · rename_i hc
      split at h
      · rename_i ks1 l h1 h2
        split at h
        · rename_i hl'
          obtain ⟨hl, hne0⟩ := hl'
          obtain ⟨ks2, h3, rfl⟩ := Option.map_eq_some_iff.1 h
          have hname : f.name ≠ "_" := fun e => hc (.inl e)
          have hoff : f.offset = off := by
            by_cases e : f.offset = off
            · exact e
            · exact absurd (.inr e) hc
          obtain ⟨t1, t2, t3, t4, t5⟩ := ht.split ks1
          simp only [List.length_drop] at t4 t5
          have p1 := part_run h2 xs off (by rw [hl]; omega) w
          have p2 := part_run h2 ys off (by rw [hl]; omega) w
          rw [hl] at p1 p2
          have q := hr f.type ks1 l h1 h2 _ _ w t1
          simp only [List.drop_drop] at t2 t3
          have ih' := ih (off + ks1.length) ks2 h3 t2
          rw [t3]
          simp only [Op.eqFields, if_pos hname, hoff, Sem.run_bind, p1, p2, q, Result.andThen_ok, Sem.run_ite, Sem.run_pure]
          cases cellsEqV ((xs.drop off).take ks1.length) ((ys.drop off).take ks1.length) with
          | true => simp [ih']
          | false => simp
        · cases h
      · cases h
theorem equalIn_run {P : Program} (d : Nat) : ∀ (t : TypeId) (ks : List CK) (l : Option Nat), eqKinds P d t = some ks → tyLay P t = some l → ∀ (e : Nat) (xs ys : List Value) (w : World), Typed ks xs ys →
    (Op.equalIn (d + e) t (fval l xs) (fval l ys)).run P w = .ok (cellsEqV xs ys) w := by
  induction d with
  | zero => intro t ks l h; cases h
  | succ d ih =>
    intro t ks l h hl e xs ys w ht
    rw [show d + 1 + e = (d + e) + 1 by omega]
    simp only [eqKinds] at h
    have one : ∀ u, P.underlying t = some u → (∀ fs, u ≠ .struct fs) → (∀ n e, u ≠ .array n e) → l = none := fun u hu h1 h2 => by
      unfold tyLay at hl
      rw [hu] at hl
      split at hl
      · rename_i fs i e _; simp only [Option.some.injEq] at e; exact absurd e (h1 _)
      · rename_i n e i e' _; simp only [Option.some.injEq] at e'; exact absurd e' (h2 _ _)
      · cases hl; rfl
      · cases hl
    split at h
    · rename_i k hu
      cases h
      have := one _ hu (fun _ => by simp) (fun _ _ => by simp)
      subst this
      obtain ⟨x, y, rfl, rfl⟩ := ht.one
      match x, y, ht with
      | .int k1 a, .int k2 b, ⟨h1, _⟩ =>
        subst h1
        simp [fval, run_equalIn_int w (d + e) t k1 k a b hu, cellsEqV, cellEqV]
    · rename_i hu
      cases h
      have := one _ hu (fun _ => by simp) (fun _ _ => by simp)
      subst this
      obtain ⟨x, y, rfl, rfl⟩ := ht.one
      match x, y, ht with
      | .bool a, .bool b, _ => simp [fval, run_equalIn_bool w (d + e) t a b hu, cellsEqV, cellEqV]
    · rename_i hu
      cases h
      have := one _ hu (fun _ => by simp) (fun _ _ => by simp)
      subst this
      obtain ⟨x, y, rfl, rfl⟩ := ht.one
      match x, y, ht with
      | .string a, .string b, _ =>
        simp only [fval, List.getD_cons_zero, run_equalIn_string w (d + e) t a b hu, cellsEqV, cellEqV, Bool.and_true, beq_toListBytes]
    · rename_i fs hu
      split at h
      · cases h
      · rename_i hsh
        have hl' := tyLay_struct hu hl
        obtain ⟨n, rfl⟩ := hl'
        have hfo : P.underlying t = some (.struct (P.fieldsOf t)) := by unfold Program.fieldsOf; rw [hu]
        have hfs : P.fieldsOf t = fs := by unfold Program.fieldsOf; rw [hu]
        have := run_equalIn_struct (P := P) w (d + e) t xs.toArray ys.toArray hfo (by simpa using hsh)
        rw [hfs] at this
        simp only [fval]
        rw [this]
        have := eqFields_run (P := P) (D := d + e) (r := eqKinds P d) (fun t ks l h1 h2 xs ys w ht => ih t ks l h1 h2 e xs ys w ht) xs ys w fs.toList 0 ks h (by simpa using ht)
        simpa using this
    · cases h
def cellEq : DV → DV → Bool
  | .v (.int _ a), .v (.int _ b) => a == b
  | .v (.bool a), .v (.bool b) => a == b
  | .v (.string a), .v (.string b) => a == b
  | _, _ => true
def cellsEq : List DV → List DV → Bool
  | x :: xs, y :: ys => cellEq x y && cellsEq xs ys
  | _, _ => true
def typedD : List CK → List DV → List DV → Bool
  | [], [], [] => true
  | .int :: ks, .v (.int k _) :: xs, .v (.int k' _) :: ys => decide (k = k') && typedD ks xs ys
  | .bool :: ks, .v (.bool _) :: xs, .v (.bool _) :: ys => typedD ks xs ys
  | .str :: ks, .v (.string _) :: xs, .v (.string _) :: ys => typedD ks xs ys
  | _, _, _ => false
def eqTK (P : Program) (t : TypeId) : Option (List CK) :=
  match tyLay P t with
  | some (some _) => if P.eqGuardType P.depth t = true then none else eqKinds P 20 t
  | _ => none
def str : DV → DV
  | .when _ d => str d
  | d => d
def wok : DV → Prop
  | .when t d => t = true ∧ wok d
  | _ => True
theorem rv_str {w : World} {F : Nat → Prop} {β : Beta} {x : Value} : (d : DV) → wok d → RV w F β d x → RV w F β (str d) x
  | .when t d, h, hx => by
    obtain ⟨h1, h2⟩ := h
    cases hx with
    | data h => cases h
    | whn _ _ _ h3 _ => exact rv_str d h2 (h3 h1)
  | .v _, _, hx | .lst .., _, hx | .lref .., _, hx | .ref .., _, hx | .arr .., _, hx | .sub .., _, hx | .agg _, _, hx | .tup _, _, hx | .clo .., _, hx | .ifc .., _, hx | .mp _, _, hx | .mo _, _, hx | .dead, _, hx => hx
theorem typed_of {w : World} {F : Nat → Prop} {β : Beta} (ks : List CK) : ∀ {ds es : List DV} {xs ys : List Value}, typedD ks ds es = true → Pw w F β ds xs → Pw w F β es ys →
    Typed ks xs ys ∧ cellsEqV xs ys = cellsEq ds es := by
  induction ks with
  | nil =>
    intro ds es xs ys h hx hy
    cases ds <;> cases es <;> first | (simp [typedD] at h; done) | skip
    have h1 : xs = [] := List.length_eq_zero_iff.1 hx.1.symm
    have h2 : ys = [] := List.length_eq_zero_iff.1 hy.1.symm
    subst h1 h2
    exact ⟨trivial, rfl⟩
  | cons c ks ih =>
    intro ds es xs ys h hx hy
    cases ds with
    | nil => cases c <;> simp [typedD] at h
    | cons d ds =>
      cases es with
      | nil => cases c <;> cases d <;> first | (simp [typedD] at h; done) | (rename_i u; cases u <;> simp [typedD] at h)
      | cons e es =>
        cases xs with
        | nil => have := hx.1; simp at this
        | cons x xs =>
          cases ys with
          | nil => have := hy.1; simp at this
          | cons y ys =>
            obtain ⟨hx1, hx2⟩ := hx.tail
            obtain ⟨hy1, hy2⟩ := hy.tail
            unfold typedD at h
            split at h
            case h_1 => rename_i e1 _ _; cases e1
            case h_2 =>
              rename_i a b c
              cases a; cases b; cases c
              simp only [Bool.and_eq_true, decide_eq_true_eq] at h
              obtain ⟨i1, i2⟩ := ih h.2 hx2 hy2
              rw [rv_v hx1, rv_v hy1]
              exact ⟨⟨h.1, i1⟩, by simp only [cellsEqV, cellEqV, cellsEq, cellEq, i2]⟩
            case h_3 =>
              rename_i a b c
              cases a; cases b; cases c
              obtain ⟨i1, i2⟩ := ih h hx2 hy2
              rw [rv_v hx1, rv_v hy1]
              exact ⟨i1, by simp only [cellsEqV, cellEqV, cellsEq, cellEq, i2]⟩
            case h_4 =>
              rename_i a b c
              cases a; cases b; cases c
              obtain ⟨i1, i2⟩ := ih h hx2 hy2
              rw [rv_v hx1, rv_v hy1]
              exact ⟨i1, by simp only [cellsEqV, cellEqV, cellsEq, cellEq, i2]⟩
            case h_5 => cases h
theorem equal_run {P : Program} {t : TypeId} {ds es : List DV} (h : (eqTK P t).any (fun ks => typedD ks ds es) = true) {w w' : World} {F : Nat → Prop} {β : Beta} {xs ys : List Value} (hx : Pw w F β ds xs) (hy : Pw w F β es ys) :
    P.eqGuardType P.depth t = false ∧ (Op.equal t (.agg xs.toArray) (.agg ys.toArray)).run P w' = .ok (cellsEq ds es) w' := by
  unfold eqTK at h
  split at h
  · rename_i n hn
    split at h
    · cases h
    · rename_i hg
      cases h1 : eqKinds P 20 t with
      | none => rw [h1] at h; cases h
      | some ks =>
      rw [h1] at h
      have h2 : typedD ks ds es = true := h
      obtain ⟨k1, k2⟩ := typed_of ks h2 hx hy
      have := equalIn_run 20 t ks (some n) h1 hn 9980 xs ys w' k1
      exact ⟨by simpa using hg, by rw [← k2]; exact this⟩
  · cases h
theorem qsem_eql {P : Program} {s : Sto} {t : TypeId} {x y : Operand} {yt : TypeId} {ρ : Operand → DV} {ds es : List DV} (wx : wok (ρ x)) (hx : str (ρ x) = .agg ds) (wy : wok (ρ y)) (hy : str (ρ y) = .agg es)
    (h : (eqTK P t).any (fun ks => typedD ks ds es) = true) : QSem P s (.binOp .eql t x y yt) ρ (.v (.bool (cellsEq ds es))) := by
  intro w0 F0 β w a hs hρ
  have h1 := rv_str _ wx (hρ x)
  have h2 := rv_str _ wy (hρ y)
  rw [hx] at h1
  rw [hy] at h2
  obtain ⟨xs, ex, l1, p1⟩ := rv_agg h1
  obtain ⟨ys, ey, l2, p2⟩ := rv_agg h2
  refine ⟨_, .data (.v _ rfl), fun o w' ho _ => ?_⟩
  obtain ⟨g1, g2⟩ := equal_run (w' := w') h ⟨l1, p1⟩ ⟨l2, p2⟩
  simp only [execOp, ho, ex, ey, Sem.run_bind, run_eqGuard_agg w' .eql t x y _ _ g1, Result.andThen_ok, binOp, g2, Sem.run_pure]
theorem dq_eql {P : Program} {s : Sto} {t : TypeId} {x y : Operand} {yt : TypeId} {ρ : Operand → DV} {ds es : List DV} {g : Bool} {K : DV → Prop} {ks : List CK} (hks : eqTK P t = some ks) (wx : g = true → wok (ρ x)) (hx : str (ρ x) = .agg ds) (wy : g = true → wok (ρ y)) (hy : str (ρ y) = .agg es)
    (h : typedD ks ds es = true) (hk : K (.v (.bool (cellsEq ds es)))) : ∃ d, (g = true → QSem P s (.binOp .eql t x y yt) ρ d) ∧ K d :=
  ⟨_, fun hg => qsem_eql (wx hg) hx (wy hg) hy (by rw [hks]; exact h), hk⟩
end Go.Dl


