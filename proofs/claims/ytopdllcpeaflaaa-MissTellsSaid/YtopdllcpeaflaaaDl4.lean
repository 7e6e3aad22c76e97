/-
  The data-level logic, part 4: soundness of the other quiet operations, and all of them together ('dq_sound').
-/
import Derived.Test.YtopdllcpeaflaaaDl3
namespace Go.Dl
open Go Go.RowKit

section
variable {P : Program} {s : Sto} {ρ : Operand → DV} {g : Bool} {K : DV → Prop}

theorem fldOff_run {t : TypeId} {f fo : Nat} (h : fldOff P t f = some fo) (b off : Nat) (w : World) :
    (Instr.fieldAt t (.pointer (some ⟨b, off, none⟩)) f).run P w = .ok (.pointer (some ⟨b, off + fo, none⟩)) w := by
  unfold fldOff at h
  split at h
  · rename_i fs h1
    split at h
    · rename_i x h2
      split at h
      · cases h
      · rename_i h3
        simp only [Option.some.injEq] at h
        subst h
        have : ∃ i, P.info? x.type = some i ∧ i.size ≠ 0 := by
          unfold Program.cellsOf at h3
          cases hi : P.info? x.type with
          | none => simp [hi] at h3
          | some i => exact ⟨i, rfl, by simpa [hi] using h3⟩
        obtain ⟨i, hi, hne⟩ := this
        simp [Instr.fieldAt, run_underlying h1, h2, Instr.sureAddr, fieldPlace, sizeOf, typeInfo, hi, hne, Addr.add_lit]
    · cases h
  · cases h

theorem sound_fieldAddr {t : TypeId} {x : Operand} {f : Nat} (h : dq P s ρ g (.fieldAddr t x f) K) : ∃ d, K d ∧ (g = true → QSem P s (.fieldAddr t x f) ρ d) := by
  simp only [dq] at h
  split at h
  · rename_i fo hfo
    obtain ⟨dx, h, hx⟩ := evg_sound _ h
    split at h
    · refine ⟨_, h, fun hg w0 F0 β w a hs hρ => ?_⟩
      obtain ⟨b, c, hb, he⟩ := rv_ref (hx hg _ _ _ _ (hρ x))
      exact ⟨_, .ref _ _ b c hb, fun o w' ho _ => by simp only [execOp, ho, he, Sem.run_bind, fldOff_run hfo, Result.andThen_ok, Sem.run_pure]⟩
    · refine ⟨_, h, fun hg w0 F0 β w a hs hρ => ?_⟩
      obtain ⟨b, o, cap, hrd, hi, he⟩ := rv_lref (hx hg _ _ _ _ (hρ x))
      exact ⟨_, .lref _ _ _ _ b o cap hrd hi, fun op w' ho _ => by simp only [execOp, ho, he, Sem.run_bind, fldOff_run hfo, Result.andThen_ok, Sem.run_pure, Nat.add_assoc]⟩
    · exact h.elim
  · exact h.elim

theorem slElem_some {t : TypeId} {sz : Nat} (h : slElem P t = some sz) : ∃ e i, P.underlying t = some (.slice e) ∧ P.info? e = some i ∧ i.size = sz := by
  unfold slElem at h
  split at h
  · rename_i e h1
    cases hi : P.info? e with
    | none => simp [hi] at h
    | some i => exact ⟨e, i, h1, hi, by simpa [hi] using h⟩
  · cases h
theorem arElem_some {t : TypeId} {n sz : Nat} (h : arElem P t = some (n, sz)) : ∃ e i, P.underlying t = some (.array n e) ∧ P.info? e = some i ∧ i.size = sz := by
  unfold arElem at h
  split at h
  · rename_i n' e h1
    cases hi : P.info? e with
    | none => simp [hi] at h
    | some i =>
      simp only [hi, Option.map_some, Option.some.injEq, Prod.mk.injEq] at h
      obtain ⟨rfl, h⟩ := h
      exact ⟨e, i, h1, hi, h⟩
  · cases h
theorem isStr_some {t : TypeId} (h : isStr P t = true) : P.underlying t = some .string := by
  unfold isStr at h
  split at h
  · assumption
  · cases h

theorem run_indexAt_sl {t : TypeId} {sz : Nat} (h : slElem P t = some sz) (b o len cap : Nat) (k : IntKind) (i : Int) (h0 : 0 ≤ i) (h1 : i < len) (w : World) :
    (Instr.indexAt t (.slice (some ⟨b, o, none⟩) len cap) (.int k i)).run P w = .ok (.pointer (some ⟨b, o + i.toNat * sz, none⟩)) w := by
  obtain ⟨e, inf, h2, h3, rfl⟩ := slElem_some h
  simp [Instr.indexAt, asIntOf, run_underlying h2, sizeOf, typeInfo, h3, h0, h1, Addr.add_lit]

theorem sound_indexAddr {t : TypeId} {x ix : Operand} (h : dq P s ρ g (.indexAddr t x ix) K) : ∃ d, K d ∧ (g = true → QSem P s (.indexAddr t x ix) ρ d) := by
  simp only [dq] at h
  obtain ⟨dx, h, hx⟩ := evg_sound _ h
  obtain ⟨dix, h, hix⟩ := evg_sound _ h
  split at h
  · obtain ⟨h1, h2⟩ := h
    refine ⟨_, h2, fun hg w0 F0 β w a hs hρ => ?_⟩
    obtain ⟨hsl, h0, hlt⟩ := h1 hg
    have ei := rv_v (hix hg _ _ _ _ (hρ ix))
    obtain ⟨ad, cap, he, hrd, hle, hcm, hn, hne⟩ := rv_lst (hx hg _ _ _ _ (hρ x))
    obtain ⟨b, o, rfl⟩ := hne (fun e => by subst e; simp at hlt; omega)
    refine ⟨_, .lref _ _ _ _ b o cap hrd (by omega), fun op w' ho _ => ?_⟩
    simp only [execOp, ho, he, ei, Sem.run_bind, run_indexAt_sl hsl b o _ cap _ _ h0 hlt, Result.andThen_ok, Sem.run_pure, Nat.add_zero]
  · split at h
    · rename_i sz hsl
      obtain ⟨h1, h2⟩ := h
      refine ⟨_, h2, fun hg w0 F0 β w a hs hρ => ?_⟩
      obtain ⟨h0, hlt⟩ := h1 hg
      have ei := rv_v (hix hg _ _ _ _ (hρ ix))
      rcases rv_arr (hx hg _ _ _ _ (hρ x)) with ⟨b, c, hb, hlc, he⟩ | ⟨_, h3, _⟩
      · refine ⟨_, .ref _ _ b c hb, fun op w' ho _ => ?_⟩
        simp only [execOp, ho, he, ei, Sem.run_bind, run_indexAt_sl hsl b 0 _ c _ _ h0 hlt, Result.andThen_ok, Sem.run_pure, Nat.zero_add]
      · omega
    · exact h.elim
  · split at h
    · rename_i n sz har
      obtain ⟨h1, h2⟩ := h
      refine ⟨_, h2, fun hg w0 F0 β w a hs hρ => ?_⟩
      obtain ⟨h0, hlt⟩ := h1 hg
      have ei := rv_v (hix hg _ _ _ _ (hρ ix))
      obtain ⟨b, c, hb, he⟩ := rv_ref (hx hg _ _ _ _ (hρ x))
      refine ⟨_, .ref _ _ b c hb, fun op w' ho _ => ?_⟩
      obtain ⟨e, inf, k2, k3, rfl⟩ := arElem_some har
      simp [execOp, ho, he, ei, Instr.indexAt, asIntOf, run_underlying k2, sizeOf, typeInfo, k3, h0, hlt, Addr.add_lit, Instr.sureAddr]
    · exact h.elim
  · exact h.elim

theorem getElem?_data (s : ByteArray) (i : Nat) : s[i]? = s.data[i]? := by
  by_cases h : i < s.size
  · rw [getElem?_pos s i h, getElem?_pos s.data i h]; rfl
  · rw [getElem?_neg s i h, getElem?_neg s.data i h]

theorem byte_get {s : ByteArray} {i : Int} (h0 : 0 ≤ i) (h1 : i < s.size) : s[i.toNat]? = some (s.data.toList.getD i.toNat 0) := by
  have hlt' : i.toNat < s.data.size := by have : s.size = s.data.size := rfl; omega
  rw [getElem?_data, List.getD_eq_getElem?_getD, Array.getElem?_toList, Array.getElem?_eq_getElem hlt']; rfl

theorem sound_index {t : TypeId} {x ix : Operand} (h : dq P s ρ g (.index t x ix) K) : ∃ d, K d ∧ (g = true → QSem P s (.index t x ix) ρ d) := by
  simp only [dq] at h
  obtain ⟨dx, h, hx⟩ := evg_sound _ h
  obtain ⟨dix, h, hix⟩ := evg_sound _ h
  split at h
  · obtain ⟨h1, h2⟩ := h
    refine ⟨_, h2, fun hg w0 F0 β w a hs hρ => ⟨_, .data (.v _ rfl), fun o w' ho _ => ?_⟩⟩
    obtain ⟨hst, h0, hlt⟩ := h1 hg
    have ei := rv_v (hix hg _ _ _ _ (hρ ix))
    have ex := rv_v (hx hg _ _ _ _ (hρ x))
    simp only [execOp, ho, ex, ei, Instr.index, asIntOf, Sem.run_bind, Sem.run_pure, run_underlying (isStr_some hst), Result.andThen_ok, h0, if_true, byte_get h0 hlt, byteAt]
  · exact h.elim

theorem evb_sound {lo : Option Operand} {z : Int} {K : Int → Prop} (h : evb ρ g lo z K) :
    ∃ i, K i ∧ (g = true → ∀ w F β (a : Act), (∀ x, RV w F β (ρ x) (a.eval x)) → (lo = none ∧ i = z) ∨ ∃ x k, lo = some x ∧ a.eval x = .int k i) := by
  cases lo with
  | none => exact ⟨z, h, fun _ _ _ _ _ _ => .inl ⟨rfl, rfl⟩⟩
  | some x =>
    obtain ⟨d, h, hx⟩ := evg_sound _ h
    split at h
    · exact ⟨_, h, fun hg w F β a hρ => .inr ⟨x, _, rfl, rv_v (hx hg _ _ _ _ (hρ x))⟩⟩
    · exact h.elim

theorem run_bounds (isSlice : Bool) (len cap : Nat) (lo hi : Option Value) (l h : Nat) (w : World)
    (hl : (lo = none ∧ l = 0) ∨ ∃ k, lo = some (.int k (l : Int))) (hh : (hi = none ∧ h = len) ∨ ∃ k, hi = some (.int k (h : Int)))
    (h1 : l ≤ h) (h2 : h ≤ len) (h3 : len ≤ cap) : (Instr.sliceBounds isSlice len cap lo hi none).run P w = .ok (l, h, cap) w := by
  rcases hl with ⟨rfl, rfl⟩ | ⟨k, rfl⟩ <;> rcases hh with ⟨rfl, rfl⟩ | ⟨k', rfl⟩ <;>
    simp [Instr.sliceBounds, Instr.sliceBound, asIntOf, h1] <;> omega

theorem rd_slice {w : World} {F : Nat → Prop} {sz : Nat} {es : List (List DV)} {a : Option Addr} {cap : Nat} (h : RD w F (.lst sz es) (.slice a es.length cap)) (l m : Nat) (hlm : l ≤ m) (hm : m ≤ es.length) :
    RD w F (.lst sz ((es.take m).drop l)) (.slice (if cap = l then a else a.map (·.add (l * sz))) (m - l) (cap - l)) := by
  cases h with
  | lst _ _ _ b off _ g ha hn hc hmx hsz hcell hd =>
    have hlen : ((es.take m).drop l).length = m - l := by simp; omega
    have hget : ∀ (i : Nat) cs, ((es.take m).drop l)[i]? = some cs → es[l + i]? = some cs := fun i cs h => by
      rw [List.getElem?_drop, List.getElem?_take] at h
      split at h
      · exact h
      · cases h
    rw [← hlen]
    refine .lst sz _ _ b (off + l * sz) _ (fun i j => g (l + i) j) (fun hne => ?_) (fun hna => ?_) (by omega) (by omega) (fun i cs hi => hsz _ _ (hget i cs hi)) (fun i cs j d hi hj => ?_) (fun i cs j d hi hj => hd _ _ _ _ (hget i cs hi) hj)
    · have hpos : 0 < m - l := by rw [← hlen]; exact List.length_pos_iff.2 hne
      have hne' : es ≠ [] := fun e => by subst e; simp at hm; omega
      have := ha hne'
      subst this
      rw [if_neg (by omega)]
      simp [Addr.add_lit]
    · split at hna
      · have := hn hna; omega
      · cases a with
        | none => have := hn rfl; omega
        | some _ => simp at hna
    · have := hcell (l + i) cs j d (hget i cs hi) hj
      rw [show off + (l + i) * sz + j = off + l * sz + i * sz + j by rw [Nat.add_mul]; omega] at this
      exact this

theorem sound_slice {t : TypeId} {x : Operand} {lo hi : Option Operand} (h : dq P s ρ g (.slice t x lo hi none) K) : ∃ d, K d ∧ (g = true → QSem P s (.slice t x lo hi none) ρ d) := by
  simp only [dq] at h
  obtain ⟨dx, h, hx⟩ := evg_sound _ h
  have bnd : ∀ {o : Option Operand} {i z : Int} {a : Act} (_ : 0 ≤ i), ((o = none ∧ i = z) ∨ ∃ x k, o = some x ∧ a.eval x = .int k i) → ∀ (n : Nat), z = n →
      (o.map a.eval = none ∧ i.toNat = n) ∨ ∃ k, o.map a.eval = some (.int k (i.toNat : Int)) := fun hi h n hz => by
    rcases h with ⟨rfl, rfl⟩ | ⟨x, k, rfl, e⟩
    · exact .inl ⟨rfl, by omega⟩
    · exact .inr ⟨k, by simp only [Option.map_some, e, Int.toNat_of_nonneg hi]⟩
  split at h
  · rename_i str
    obtain ⟨l, h, hl⟩ := evb_sound h
    obtain ⟨m, h, hm⟩ := evb_sound h
    obtain ⟨h1, h2⟩ := h
    refine ⟨_, h2, fun hg w0 F0 β w a hs hρ => ⟨_, .data (.v _ rfl), fun o w' ho _ => ?_⟩⟩
    obtain ⟨hst, k0, k1, k2⟩ := h1 hg
    have ex := rv_v (hx hg _ _ _ _ (hρ x))
    have hb := run_bounds (P := P) false str.size str.size (lo.map a.eval) (hi.map a.eval) l.toNat m.toNat w' (bnd k0 (hl hg _ _ _ a hρ) 0 rfl) (bnd (by omega) (hm hg _ _ _ a hρ) str.size rfl) (by omega) (by omega) (by omega)
    simp only [execOp, ho, ex, Instr.sliceAt, Instr.slice, Sem.run_bind, run_underlying (isStr_some hst), Result.andThen_ok, Option.map_none, Option.isSome_none, Bool.false_eq_true, if_false, hb, Sem.run_pure]
  · rename_i sz es
    obtain ⟨l, h, hl⟩ := evb_sound h
    obtain ⟨m, h, hm⟩ := evb_sound h
    obtain ⟨h1, h2⟩ := h
    refine ⟨_, h2, fun hg w0 F0 β w a hs hρ => ?_⟩
    obtain ⟨hsl, k0, k1, k2⟩ := h1 hg
    obtain ⟨e, inf, g2, g3, rfl⟩ := slElem_some hsl
    obtain ⟨ad, cap, he, hrd, hle, hcm, hn, hne⟩ := rv_lst (hx hg _ _ _ _ (hρ x))
    refine ⟨_, .data (rd_slice hrd l.toNat m.toNat (by omega) (by omega)), fun o w' ho _ => ?_⟩
    have hb := run_bounds (P := P) true es.length cap (lo.map a.eval) (hi.map a.eval) l.toNat m.toNat w' (bnd k0 (hl hg _ _ _ a hρ) 0 rfl) (bnd (by omega) (hm hg _ _ _ a hρ) es.length rfl) (by omega) (by omega) hle
    simp only [execOp, ho, he, Instr.sliceAt, Instr.slice, Sem.run_bind, run_underlying g2, Result.andThen_ok, Option.map_none, hb, Sem.run_pure, sizeOf, typeInfo, run_program, g3]
  · rename_i id len
    obtain ⟨l, h, hl⟩ := evb_sound h
    obtain ⟨m, h, hm⟩ := evb_sound h
    obtain ⟨h1, h2⟩ := h
    refine ⟨_, h2, fun hg w0 F0 β w a hs hρ => ?_⟩
    obtain ⟨hsl, rfl, k1, k2⟩ := h1 hg
    obtain ⟨sz, hsz⟩ := Option.isSome_iff_exists.1 hsl
    obtain ⟨e, inf, g2, g3, rfl⟩ := slElem_some hsz
    rcases rv_arr (hx hg _ _ _ _ (hρ x)) with ⟨b, c, hb, hlc, he⟩ | ⟨hb, h3, he⟩
    · refine ⟨.slice (some ⟨b, 0, none⟩) m.toNat c, .arr _ _ b c hb (by omega), fun o w' ho _ => ?_⟩
      have hb := run_bounds (P := P) true len c (lo.map a.eval) (hi.map a.eval) 0 m.toNat w' (bnd (Int.le_refl 0) (hl hg _ _ _ a hρ) 0 rfl) (bnd k1 (hm hg _ _ _ a hρ) len rfl) (by omega) (by omega) hlc
      simp only [execOp, ho, he, Instr.sliceAt, Instr.slice, Sem.run_bind, run_underlying g2, Result.andThen_ok, Option.map_none, hb, Sem.run_pure, sizeOf, typeInfo, run_program, g3, Nat.sub_zero, Nat.zero_mul, Addr.add_zero', Option.map_some, ite_self]
    · subst h3
      have hm0 : m = 0 := by omega
      subst hm0
      refine ⟨.slice none 0 0, .arrNil _ hb, fun o w' ho _ => ?_⟩
      have hb := run_bounds (P := P) true 0 0 (lo.map a.eval) (hi.map a.eval) 0 0 w' (bnd (Int.le_refl 0) (hl hg _ _ _ a hρ) 0 rfl) (bnd (Int.le_refl 0) (hm hg _ _ _ a hρ) 0 rfl) (by omega) (by omega) (by omega)
      simp only [execOp, ho, he, Instr.sliceAt, Instr.slice, Sem.run_bind, run_underlying g2, Result.andThen_ok, Option.map_none, hb, Sem.run_pure, sizeOf, typeInfo, run_program, g3, if_true, Nat.sub_zero]
  · exact h.elim

theorem sound_extract {x : Operand} {i : Nat} (h : dq P s ρ g (.extract x i) K) : ∃ d, K d ∧ (g = true → QSem P s (.extract x i) ρ d) := by
  simp only [dq] at h
  obtain ⟨dx, h, hx⟩ := evg_sound _ h
  split at h
  · rename_i ds
    obtain ⟨h1, h2⟩ := h
    refine ⟨_, h2, fun hg w0 F0 β w a hs hρ => ?_⟩
    have hlt := h1 hg
    obtain ⟨xs, he, hl, hp⟩ := rv_tup (hx hg _ _ _ _ (hρ x))
    have hlt' : i < xs.length := by omega
    refine ⟨xs[i], ?_, fun o w' ho _ => ?_⟩
    · rw [List.getD_eq_getElem?_getD, List.getElem?_eq_getElem hlt]
      exact hp i _ _ (List.getElem?_eq_getElem hlt) (List.getElem?_eq_getElem hlt')
    · simp [execOp, ho, he, Instr.extract, List.getElem?_eq_getElem hlt']
  · exact h.elim

theorem sound_makeInterface {t : TypeId} {x : Operand} (h : dq P s ρ g (.makeInterface t x) K) : ∃ d, K d ∧ (g = true → QSem P s (.makeInterface t x) ρ d) := by
  simp only [dq] at h
  obtain ⟨h1, h2⟩ := h
  refine ⟨_, h2, fun hg w0 F0 β w a hs hρ => ⟨_, .ifc _ _ _ (hρ x), fun o w' ho _ => ?_⟩⟩
  obtain ⟨k1, k2⟩ := h1 hg
  obtain ⟨d, hd⟩ := Option.isSome_iff_exists.1 k1
  simp only [hd, Option.all_some] at k2
  simp only [execOp, ho, Instr.makeInterface, Sem.run_bind, run_underlying hd, Result.andThen_ok]
  split
  · cases k2
  · simp

theorem rv_map {w : World} {F : Nat → Prop} {β : Beta} (xs : List Operand) (ev : Operand → Value) (hρ : ∀ x, RV w F β (ρ x) (ev x)) :
    ∀ (i : Nat) d y, (xs.map ρ)[i]? = some d → (xs.map ev)[i]? = some y → RV w F β d y := fun i d y h1 h2 => by
  simp only [List.getElem?_map] at h1 h2
  cases hx : xs[i]? with
  | none => simp [hx] at h1
  | some x =>
    simp only [hx, Option.map_some, Option.some.injEq] at h1 h2
    subst h1 h2
    exact hρ x

theorem sound_makeFunc {fn : Fn} {first captured : Array Operand} (h : dq P s ρ g (.makeFunc fn first captured) K) : ∃ d, K d ∧ (g = true → QSem P s (.makeFunc fn first captured) ρ d) := by
  simp only [dq] at h
  refine ⟨_, h, fun hg w0 F0 β w a hs hρ => ⟨.func fn (first.toList.map a.eval).toArray (captured.toList.map a.eval).toArray, .clo _ _ _ _ _ (by simp) (by simp) (rv_map _ _ hρ) (rv_map _ _ hρ), fun o w' ho _ => ?_⟩⟩
  have e : ∀ (xs : Array Operand), (xs.toList.map a.eval).toArray = xs.map a.eval := fun xs => by rw [← Array.toList_map, Array.toArray_toList]
  simp only [execOp, ho, Instr.makeFunc, e, Sem.run_bind, Sem.run_pure, Result.andThen_ok]

end
end Go.Dl
