/-
  The data-level logic, part 14: slices and nil; owned slices given up, laid out; new objects of a callee.
-/
import Derived.Test.YtlchjjchgebfiaaGreatDoorDp13

namespace Go.Dl
open Go Go.RowKit
theorem run_eqNil {P : Program} {t e : TypeId} (ht : P.underlying t = some (.slice e)) (a : Option Addr) (n c : Nat) (x y : Operand) (w : World) :
    ((do eqGuard .eql t x y (.slice a n c) (.slice none 0 0); binOp .eql t (.slice a n c) (.slice none 0 0)) : Sem Value).run P w = .ok (.bool a.isNone) w ∧
    ((do eqGuard .neq t x y (.slice a n c) (.slice none 0 0); binOp .neq t (.slice a n c) (.slice none 0 0)) : Sem Value).run P w = .ok (.bool (!a.isNone)) w := by
  have h : (Op.equal t (.slice a n c) (.slice none 0 0)).run P w = .ok a.isNone w := by
    show (Op.equalIn (9999 + 1) t (.slice a n c) (.slice none 0 0)).run P w = _
    generalize 9999 = k
    cases a <;> simp [Op.equalIn, run_underlying ht]
  constructor <;> simp [eqGuard, binOp, h]
section
variable {P : Program} {s : Sto} {t : TypeId} {x y : Operand} {yt : TypeId} {ρ : Operand → DV} {g : Bool} {K : DV → Prop}
def slT (P : Program) (t : TypeId) : Bool := match P.underlying t with | some (.slice _) => true | _ => false
theorem slT_some (h : slT P t = true) : ∃ e, P.underlying t = some (.slice e) := by
  unfold slT at h
  split at h
  · rename_i e he; exact ⟨e, he⟩
  · cases h
theorem qsem_nil {b : Bool} (ht : slT P t = true) (hx : ∀ (w0 : World) (F0 : Nat → Prop) (β : Beta) (w : World) (v : Value), ObsF w0 F0 s β w → RV w F0 β (ρ x) v → ∃ a n c, v = .slice a n c ∧ a.isNone = b)
    (wy : wok (ρ y)) (hy : str (ρ y) = .v (.slice none 0 0)) : QSem P s (.binOp .eql t x y yt) ρ (.v (.bool b)) ∧ QSem P s (.binOp .neq t x y yt) ρ (.v (.bool (!b))) := by
  obtain ⟨e, he⟩ := slT_some ht
  constructor <;> intro w0 F0 β w ac hs hρ <;>
  · obtain ⟨a, n, c, e1, e2⟩ := hx w0 F0 β w _ hs (hρ x)
    have h2 := rv_str _ wy (hρ y)
    rw [hy] at h2
    have e3 := rv_v h2
    refine ⟨_, .data (.v _ rfl), fun o w' ho _ => ?_⟩
    have k := run_eqNil he a n c x y w'
    simp only [execOp, ho, e1, e3]
    first
      | (have k := k.1; rw [e2] at k; simp only [Sem.run_bind] at k ⊢; rw [k]; simp)
      | (have k := k.2; rw [e2] at k; simp only [Sem.run_bind] at k ⊢; rw [k]; simp)
theorem nil_of_lst {sz : Nat} {es : List (List DV)} (hne : es ≠ []) (wx : wok (ρ x)) (hx : str (ρ x) = .lst sz es) (w0 : World) (F0 : Nat → Prop) (β : Beta) (w : World) (v : Value) (_ : ObsF w0 F0 s β w) (h : RV w F0 β (ρ x) v) :
    ∃ a' n c, v = .slice a' n c ∧ a'.isNone = false := by
  have h1 := rv_str _ wx h
  rw [hx] at h1
  cases h1 with
  | data h =>
    cases h with
    | lst _ _ a b off cap g h0 => exact ⟨_, _, _, rfl, by rw [h0 hne]; rfl⟩
theorem dq_nilL {sz : Nat} {es : List (List DV)} (ht : slT P t = true) (hne : g = true → es ≠ []) (wx : g = true → wok (ρ x)) (hx : str (ρ x) = .lst sz es) (wy : g = true → wok (ρ y)) (hy : str (ρ y) = .v (.slice none 0 0)) (hk : K (.v (.bool false))) :
    ∃ d, (g = true → QSem P s (.binOp .eql t x y yt) ρ d) ∧ K d := ⟨_, fun hg => (qsem_nil ht (nil_of_lst (hne hg) (wx hg) hx) (wy hg) hy).1, hk⟩
end
theorem chunks_flatten (sz : Nat) (es : List (List DV)) (h : ∀ r ∈ es, r.length = sz) (rest : List DV) : chunks sz es.length (es.flatten ++ rest) = es := by
  unfold chunks
  induction es generalizing rest with
  | nil => rfl
  | cons r es ih =>
    have hr := h r (List.mem_cons_self ..)
    have := ih (fun r hr => h r (List.mem_cons_of_mem _ hr)) rest
    rw [List.length_cons, List.range_succ_eq_map, List.map_cons, List.map_map]
    congr 1
    · simp [← hr]
    · refine Eq.trans (List.map_congr_left fun i _ => ?_) this
      simp only [Function.comp, List.flatten_cons, List.append_assoc, Nat.succ_eq_add_one, Nat.add_mul, Nat.one_mul]
      rw [Nat.add_comm, ← hr, List.drop_length_add_append]
theorem DW.pubE {ρ : Nat → Option Nat} {s : Sto} {pub : Nat → Prop} {id len sz : Nat} {o : DObj} {es : List (List DV)} (hob : s.ob id = some o) (hsz : o.sz = sz) (hz : 0 < sz) (hp : pub id) (hl : es.length = len) (hr : ∀ r ∈ es, r.length = sz ∧ r.all isData1 = true)
    (hc : o.cells = es.flatten) : DW ρ s pub (.arr id len) (.lst sz es) := by
  subst hsz hl
  have h1 : chunks o.sz es.length o.cells = es := by rw [hc]; have := chunks_flatten o.sz es (fun r h => (hr r h).1) []; simpa using this
  have h2 : o.cells.length = es.length * o.sz := by
    rw [hc]
    clear h1 hc hob
    induction es with
    | nil => simp
    | cons r es ih =>
      simp only [List.flatten_cons, List.length_append, List.length_cons, Nat.succ_mul]
      rw [ih (fun r h => hr r (List.mem_cons_of_mem _ h)), (hr r (List.mem_cons_self ..)).1]; omega
  have h3 : o.cells.all isData1 = true := by
    rw [hc]
    simp only [List.all_eq_true, List.mem_flatten]
    intro d ⟨r, h1, h2⟩
    exact List.all_eq_true.1 (hr r h1).2 d h2
  have := DW.pub (ρ := ρ) (s := s) (pub := pub) id es.length o hob hp (by omega) h3 hz
  rw [h1] at this
  exact this
end Go.Dl


