/-
  The data-level logic, part 4: soundness of the other quiet operations, and all of them together ('dq_sound').
-/
import Derived.Test.YtlchjjchgebfiaaGreatDoorDp3

namespace Go.Dl
open Go Go.RowKit
section
variable {P : Program} {s : Sto} {ρ : Operand → DV} {g : Bool} {K : DV → Prop}
theorem fldOff_run {t : TypeId} {f fo : Nat} (h : fldOff P t f = some fo) (b off : Nat) (w : World) :
    (Instr.fieldAt t (.pointer (some ⟨b, off, none⟩)) f).run P w = .ok (.pointer (some ⟨b, off + fo, none⟩)) w := by
  unfold fldOff at h
  split at h
  · rename_i fs h1
    split at h
    · rename_i x h2
      split at h
      · cases h
      · rename_i h3
        simp only [Option.some.injEq] at h
        subst h
        have : ∃ i, P.info? x.type = some i ∧ i.size ≠ 0 := by
          unfold Program.cellsOf at h3
          cases hi : P.info? x.type with
          | none => simp [hi] at h3
          | some i => exact ⟨i, rfl, by simpa [hi] using h3⟩
        obtain ⟨i, hi, hne⟩ := this
        simp [Instr.fieldAt, run_underlying h1, h2, Instr.sureAddr, fieldPlace, sizeOf, typeInfo, hi, hne, Addr.add_lit]
    · cases h
  · cases h
theorem sound_fieldAddr {t : TypeId} {x : Operand} {f : Nat} (h : dq P s ρ g (.fieldAddr t x f) K) : ∃ d, K d ∧ (g = true → QSem P s (.fieldAddr t x f) ρ d) := by
  simp only [dq] at h
  split at h
  · rename_i fo hfo
    obtain ⟨dx, h, hx⟩ := evg_sound _ h
    split at h
    · refine ⟨_, h, fun hg w0 F0 β w a hs hρ => ?_⟩
      obtain ⟨b, c, hb, he⟩ := rv_ref (hx hg _ _ _ _ (hρ x))
      exact ⟨_, .ref _ _ b c hb, fun o w' ho _ => by simp only [execOp, ho, he, Sem.run_bind, fldOff_run hfo, Result.andThen_ok, Sem.run_pure]⟩
    · refine ⟨_, h, fun hg w0 F0 β w a hs hρ => ?_⟩
      obtain ⟨b, o, cap, hrd, hi, he⟩ := rv_lref (hx hg _ _ _ _ (hρ x))
      exact ⟨_, .lref _ _ _ _ b o cap hrd hi, fun op w' ho _ => by simp only [execOp, ho, he, Sem.run_bind, fldOff_run hfo, Result.andThen_ok, Sem.run_pure, Nat.add_assoc]⟩
    · exact h.elim
  · exact h.elim
theorem slElem_some {t : TypeId} {sz : Nat} (h : slElem P t = some sz) : ∃ e i, P.underlying t = some (.slice e) ∧ P.info? e = some i ∧ i.size = sz := by
  unfold slElem at h
  split at h
  · rename_i e h1
    cases hi : P.info? e with
    | none => simp [hi] at h
    | some i => exact ⟨e, i, h1, hi, by simpa [hi] using h⟩
  · cases h
theorem arElem_some {t : TypeId} {n sz : Nat} (h : arElem P t = some (n, sz)) : ∃ e i, P.underlying t = some (.array n e) ∧ P.info? e = some i ∧ i.size = sz := by
  unfold arElem at h
  split at h
  · rename_i n' e h1
    cases hi : P.info? e with
    | none => simp [hi] at h
    | some i =>
      simp only [hi, Option.map_some, Option.some.injEq, Prod.mk.injEq] at h
      obtain ⟨rfl, h⟩ := h
      exact ⟨e, i, h1, hi, h⟩
  · cases h
theorem isStr_some {t : TypeId} (h : isStr P t = true) : P.underlying t = some .string := by
  unfold isStr at h
  split at h
  · assumption
  · cases h
theorem run_indexAt_sl {t : TypeId} {sz : Nat} (h : slElem P t = some sz) (b o len cap : Nat) (k : IntKind) (i : Int) (h0 : 0 ≤ i) (h1 : i < len) (w : World) :
    (Instr.indexAt t (.slice (some ⟨b, o, none⟩) len cap) (.int k i)).run P w = .ok (.pointer (some ⟨b, o + i.toNat * sz, none⟩)) w := by
  obtain ⟨e, inf, h2, h3, rfl⟩ := slElem_some h
  simp [Instr.indexAt, asIntOf, run_underlying h2, sizeOf, typeInfo, h3, h0, h1, Addr.add_lit]
theorem sound_indexAddr {t : TypeId} {x ix : Operand} (h : dq P s ρ g (.indexAddr t x ix) K) : ∃ d, K d ∧ (g = true → QSem P s (.indexAddr t x ix) ρ d) := by
  simp only [dq] at h
  obtain ⟨dx, h, hx⟩ := evg_sound _ h
  obtain ⟨dix, h, hix⟩ := evg_sound _ h
  split at h
  · obtain ⟨h1, h2⟩ := h
    refine ⟨_, h2, fun hg w0 F0 β w a hs hρ => ?_⟩
    obtain ⟨hsl, h0, hlt⟩ := h1 hg
    have ei := rv_v (hix hg _ _ _ _ (hρ ix))
    obtain ⟨ad, cap, he, hrd, hle, hcm, hn, hne⟩ := rv_lst (hx hg _ _ _ _ (hρ x))
    obtain ⟨b, o, rfl⟩ := hne (fun e => by subst e; simp at hlt; omega)
    refine ⟨_, .lref _ _ _ _ b o cap hrd (by omega), fun op w' ho _ => ?_⟩
    simp only [execOp, ho, he, ei, Sem.run_bind, run_indexAt_sl hsl b o _ cap _ _ h0 hlt, Result.andThen_ok, Sem.run_pure, Nat.add_zero]
  · split at h
    · rename_i sz hsl
      rw [forceN_eq] at h
      obtain ⟨h1, h2⟩ := h
      refine ⟨_, h2, fun hg w0 F0 β w a hs hρ => ?_⟩
      obtain ⟨h0, hlt⟩ := h1 hg
      have ei := rv_v (hix hg _ _ _ _ (hρ ix))
      rcases rv_arr (hx hg _ _ _ _ (hρ x)) with ⟨b, c, hb, hlc, he⟩ | ⟨_, h3, _⟩
      · refine ⟨_, .ref _ _ b c hb, fun op w' ho _ => ?_⟩
        simp only [execOp, ho, he, ei, Sem.run_bind, run_indexAt_sl hsl b 0 _ c _ _ h0 hlt, Result.andThen_ok, Sem.run_pure, Nat.zero_add]
      · omega
    · exact h.elim
  · split at h
    · rename_i sz hsl
      rw [forceN_eq] at h
      obtain ⟨h1, h2⟩ := h
      refine ⟨_, h2, fun hg w0 F0 β w a hs hρ => ?_⟩
      obtain ⟨h0, hlt⟩ := h1 hg
      have ei := rv_v (hix hg _ _ _ _ (hρ ix))
      obtain ⟨ad, n, he, k1, _, _⟩ := rv_sub (hx hg _ _ _ _ (hρ x))
      obtain ⟨b, c, hb, rfl⟩ := k1 (by omega)
      refine ⟨_, .ref _ _ b c hb, fun op w' ho _ => ?_⟩
      simp only [execOp, ho, he, ei, Sem.run_bind, run_indexAt_sl hsl b _ _ n _ _ h0 hlt, Result.andThen_ok, Sem.run_pure]
    · exact h.elim
  · split at h
    · rename_i n sz har
      rw [forceN_eq] at h
      obtain ⟨h1, h2⟩ := h
      refine ⟨_, h2, fun hg w0 F0 β w a hs hρ => ?_⟩
      obtain ⟨h0, hlt⟩ := h1 hg
      have ei := rv_v (hix hg _ _ _ _ (hρ ix))
      obtain ⟨b, c, hb, he⟩ := rv_ref (hx hg _ _ _ _ (hρ x))
      refine ⟨_, .ref _ _ b c hb, fun op w' ho _ => ?_⟩
      obtain ⟨e, inf, k2, k3, rfl⟩ := arElem_some har
      simp [execOp, ho, he, ei, Instr.indexAt, asIntOf, run_underlying k2, sizeOf, typeInfo, k3, h0, hlt, Addr.add_lit, Instr.sureAddr]
    · exact h.elim
  · exact h.elim
theorem getElem?_data (s : ByteArray) (i : Nat) : s[i]? = s.data[i]? := by
  by_cases h : i < s.size
  · rw [getElem?_pos s i h, getElem?_pos s.data i h]; rfl
  · rw [getElem?_neg s i h, getElem?_neg s.data i h]
theorem byte_get {s : ByteArray} {i : Int} (h0 : 0 ≤ i) (h1 : i < s.size) : s[i.toNat]? = some (s.data.toList.getD i.toNat 0) := by
  have hlt' : i.toNat < s.data.size := by have : s.size = s.data.size := rfl; omega
  rw [getElem?_data, List.getD_eq_getElem?_getD, Array.getElem?_toList, Array.getElem?_eq_getElem hlt']; rfl
theorem sound_index {t : TypeId} {x ix : Operand} (h : dq P s ρ g (.index t x ix) K) : ∃ d, K d ∧ (g = true → QSem P s (.index t x ix) ρ d) := by
  simp only [dq] at h
  obtain ⟨dx, h, hx⟩ := evg_sound _ h
  obtain ⟨dix, h, hix⟩ := evg_sound _ h
  split at h
  · obtain ⟨h1, h2⟩ := h
    refine ⟨_, h2, fun hg w0 F0 β w a hs hρ => ⟨_, .data (.v _ rfl), fun o w' ho _ => ?_⟩⟩
    obtain ⟨hst, h0, hlt⟩ := h1 hg
    have ei := rv_v (hix hg _ _ _ _ (hρ ix))
    have ex := rv_v (hx hg _ _ _ _ (hρ x))
    simp only [execOp, ho, ex, ei, Instr.index, asIntOf, Sem.run_bind, Sem.run_pure, run_underlying (isStr_some hst), Result.andThen_ok, h0, if_true, byte_get h0 hlt, byteAt]
  · exact h.elim
theorem evb_sound {lo : Option Operand} {z : Int} {K : Int → Prop} (h : evb ρ g lo z K) :
    ∃ i, K i ∧ (g = true → ∀ w F β (a : Act), (∀ x, RV w F β (ρ x) (a.eval x)) → (lo = none ∧ i = z) ∨ ∃ x k, lo = some x ∧ a.eval x = .int k i) := by
  cases lo with
  | none => exact ⟨z, h, fun _ _ _ _ _ _ => .inl ⟨rfl, rfl⟩⟩
  | some x =>
    obtain ⟨d, h, hx⟩ := evg_sound _ h
    split at h
    · exact ⟨_, h, fun hg w F β a hρ => .inr ⟨x, _, rfl, rv_v (hx hg _ _ _ _ (hρ x))⟩⟩
    · exact h.elim
theorem run_bounds (isSlice : Bool) (len cap : Nat) (lo hi : Option Value) (l h : Nat) (w : World)
    (hl : (lo = none ∧ l = 0) ∨ ∃ k, lo = some (.int k (l : Int))) (hh : (hi = none ∧ h = len) ∨ ∃ k, hi = some (.int k (h : Int)))
    (h1 : l ≤ h) (h2 : h ≤ len) (h3 : len ≤ cap) : (Instr.sliceBounds isSlice len cap lo hi none).run P w = .ok (l, h, cap) w := by
  rcases hl with ⟨rfl, rfl⟩ | ⟨k, rfl⟩ <;> rcases hh with ⟨rfl, rfl⟩ | ⟨k', rfl⟩ <;>
    simp [Instr.sliceBounds, Instr.sliceBound, asIntOf, h1] <;> omega
theorem run_boundsX (isSlice : Bool) (len cap : Nat) (lo hi : Option Value) (l h : Nat) (w : World)
    (hl : (lo = none ∧ l = 0) ∨ ∃ k, lo = some (.int k (l : Int))) (hh : (hi = none ∧ h = len) ∨ ∃ k, hi = some (.int k (h : Int)))
    (h1 : l ≤ h) (h2 : h ≤ cap) : (Instr.sliceBounds isSlice len cap lo hi none).run P w = .ok (l, h, cap) w := by
  rcases hl with ⟨rfl, rfl⟩ | ⟨k, rfl⟩ <;> rcases hh with ⟨rfl, rfl⟩ | ⟨k', rfl⟩ <;>
    simp [Instr.sliceBounds, Instr.sliceBound, asIntOf, h1] <;> omega
theorem run_bounds3 (isSlice : Bool) (len cap : Nat) (lo hi mx : Option Value) (l h m : Nat) (w : World)
    (hl : (lo = none ∧ l = 0) ∨ ∃ k, lo = some (.int k (l : Int))) (hh : ∃ k, hi = some (.int k (h : Int))) (hm : ∃ k, mx = some (.int k (m : Int)))
    (h1 : l ≤ h) (h2 : h ≤ m) (h3 : m ≤ cap) : (Instr.sliceBounds isSlice len cap lo hi mx).run P w = .ok (l, h, m) w := by
  obtain ⟨k', rfl⟩ := hh
  obtain ⟨k'', rfl⟩ := hm
  rcases hl with ⟨rfl, rfl⟩ | ⟨k, rfl⟩ <;>
    simp [Instr.sliceBounds, Instr.sliceBound, asIntOf, h1, h2, h3]
theorem cap_of {w0 w : World} {F0 : Nat → Prop} {β : Beta} {s : Sto} {id sz h b c : Nat} (hs : ObsF w0 F0 s β w) (hb : β id = some (some (b, c))) (hc : capB s id sz h = true) : h ≤ c := by
  unfold capB at hc
  split at hc
  · rename_i o ho
    simp only [Bool.and_eq_true, beq_iff_eq, decide_eq_true_eq] at hc
    obtain ⟨⟨rfl, h0⟩, hle⟩ := hc
    rcases hs id o ho with g | ⟨b', c', cur, g1, g2, g3, g4, g5, g6, g7⟩
    · rw [g.1] at hb; cases hb
    · rw [g1] at hb
      simp only [Option.some.injEq, Prod.mk.injEq] at hb
      obtain ⟨rfl, rfl⟩ := hb
      exact Nat.le_of_mul_le_mul_right (by omega : h * o.sz ≤ c' * o.sz) h0
  · cases hc
theorem cap_nil {w0 w : World} {F0 : Nat → Prop} {β : Beta} {s : Sto} {id sz h : Nat} (hs : ObsF w0 F0 s β w) (hb : β id = some none) (hc : capB s id sz h = true) : h = 0 := by
  unfold capB at hc
  split at hc
  · rename_i o ho
    simp only [Bool.and_eq_true, beq_iff_eq, decide_eq_true_eq] at hc
    obtain ⟨⟨rfl, h0⟩, hle⟩ := hc
    rcases hs id o ho with g | ⟨b', c', cur, g1, g2, g3, g4, g5, g6, g7⟩
    · rw [g.2] at hle
      simp only [List.length_nil, Nat.le_zero, Nat.mul_eq_zero] at hle
      omega
    · rw [g1] at hb; cases hb
  · cases hc
theorem rv_subsub {w : World} {F : Nat → Prop} {β : Beta} {id off len l m n sz : Nat} {ad : Option Addr} (q1 : 0 < len → ∃ b c, β id = some (some (b, c)) ∧ ad = some ⟨b, off, none⟩) (q2 : ad = none → n = 0) (h1 : l ≤ m) (h2 : m ≤ len) (h3 : m ≤ n) :
    RV w F β (.sub id (off + l * sz) (m - l)) (.slice (if n = l then ad else ad.map (·.add (l * sz))) (m - l) (n - l)) := by
  refine .sub _ _ _ _ _ (fun h0 => ?_) (fun hn => ?_) (by omega)
  · obtain ⟨b, c, hb, rfl⟩ := q1 (by omega)
    exact ⟨b, c, hb, by rw [if_neg (by omega), Option.map_some, Addr.add_lit]⟩
  · split at hn
    · omega
    · have : ad = none := by cases ad with
        | none => rfl
        | some _ => simp at hn
      have := q2 this; omega
theorem rd_slice3 {w : World} {F : Nat → Prop} {sz : Nat} {es : List (List DV)} {a : Option Addr} {cap : Nat} (h : RD w F (.lst sz es) (.slice a es.length cap)) (l m u : Nat) (hlm : l ≤ m) (hmu : m ≤ u) (hu : u ≤ es.length) :
    RD w F (.lst sz ((es.take m).drop l)) (.slice (if u = l then a else a.map (·.add (l * sz))) (m - l) (u - l)) := by
  cases h with
  | lst _ _ _ b off _ g ha hn hc hmx hsz hcell hd =>
    have hlen : ((es.take m).drop l).length = m - l := by simp; omega
    have hget : ∀ (i : Nat) cs, ((es.take m).drop l)[i]? = some cs → es[l + i]? = some cs := fun i cs h => by
      rw [List.getElem?_drop, List.getElem?_take] at h
      split at h
      · exact h
      · cases h
    rw [← hlen]
    refine .lst sz _ _ b (off + l * sz) _ (fun i j => g (l + i) j) (fun hne => ?_) (fun hna => ?_) (by omega) (by omega) (fun i cs hi => hsz _ _ (hget i cs hi)) (fun i cs j d hi hj => ?_) (fun i cs j d hi hj => hd _ _ _ _ (hget i cs hi) hj)
    · have hpos : 0 < m - l := by rw [← hlen]; exact List.length_pos_iff.2 hne
      have hne' : es ≠ [] := fun e => by subst e; simp at hu; omega
      have := ha hne'
      subst this
      rw [if_neg (by omega)]
      simp [Addr.add_lit]
    · split at hna
      · omega
      · cases a with
        | none => have := hn rfl; omega
        | some _ => simp at hna
    · have := hcell (l + i) cs j d (hget i cs hi) hj
      rw [show off + (l + i) * sz + j = off + l * sz + i * sz + j by rw [Nat.add_mul]; omega] at this
      exact this
theorem rd_slice {w : World} {F : Nat → Prop} {sz : Nat} {es : List (List DV)} {a : Option Addr} {cap : Nat} (h : RD w F (.lst sz es) (.slice a es.length cap)) (l m : Nat) (hlm : l ≤ m) (hm : m ≤ es.length) :
    RD w F (.lst sz ((es.take m).drop l)) (.slice (if cap = l then a else a.map (·.add (l * sz))) (m - l) (cap - l)) := by
  cases h with
  | lst _ _ _ b off _ g ha hn hc hmx hsz hcell hd =>
    have hlen : ((es.take m).drop l).length = m - l := by simp; omega
    have hget : ∀ (i : Nat) cs, ((es.take m).drop l)[i]? = some cs → es[l + i]? = some cs := fun i cs h => by
      rw [List.getElem?_drop, List.getElem?_take] at h
      split at h
      · exact h
      · cases h
    rw [← hlen]
    refine .lst sz _ _ b (off + l * sz) _ (fun i j => g (l + i) j) (fun hne => ?_) (fun hna => ?_) (by omega) (by omega) (fun i cs hi => hsz _ _ (hget i cs hi)) (fun i cs j d hi hj => ?_) (fun i cs j d hi hj => hd _ _ _ _ (hget i cs hi) hj)
    · have hpos : 0 < m - l := by rw [← hlen]; exact List.length_pos_iff.2 hne
      have hne' : es ≠ [] := fun e => by subst e; simp at hm; omega
      have := ha hne'
      subst this
      rw [if_neg (by omega)]
      simp [Addr.add_lit]
    · split at hna
      · have := hn hna; omega
      · cases a with
        | none => have := hn rfl; omega
        | some _ => simp at hna
    · have := hcell (l + i) cs j d (hget i cs hi) hj
      rw [show off + (l + i) * sz + j = off + l * sz + i * sz + j by rw [Nat.add_mul]; omega] at this
      exact this
theorem sound_slice {t : TypeId} {x : Operand} {lo hi : Option Operand} (h : dq P s ρ g (.slice t x lo hi none) K) : ∃ d, K d ∧ (g = true → QSem P s (.slice t x lo hi none) ρ d) := by
  simp only [dq] at h
  obtain ⟨dx, h, hx⟩ := evg_sound _ h
  have bnd : ∀ {o : Option Operand} {i z : Int} {a : Act} (_ : 0 ≤ i), ((o = none ∧ i = z) ∨ ∃ x k, o = some x ∧ a.eval x = .int k i) → ∀ (n : Nat), z = n →
      (o.map a.eval = none ∧ i.toNat = n) ∨ ∃ k, o.map a.eval = some (.int k (i.toNat : Int)) := fun hi h n hz => by
    rcases h with ⟨rfl, rfl⟩ | ⟨x, k, rfl, e⟩
    · exact .inl ⟨rfl, by omega⟩
    · exact .inr ⟨k, by simp only [Option.map_some, e, Int.toNat_of_nonneg hi]⟩
  split at h
  · rename_i str
    obtain ⟨l, h, hl⟩ := evb_sound h
    obtain ⟨m, h, hm⟩ := evb_sound h
    obtain ⟨h1, h2⟩ := h
    refine ⟨_, h2, fun hg w0 F0 β w a hs hρ => ⟨_, .data (.v _ rfl), fun o w' ho _ => ?_⟩⟩
    obtain ⟨hst, k0, k1, k2⟩ := h1 hg
    have ex := rv_v (hx hg _ _ _ _ (hρ x))
    have hb := run_bounds (P := P) false str.size str.size (lo.map a.eval) (hi.map a.eval) l.toNat m.toNat w' (bnd k0 (hl hg _ _ _ a hρ) 0 rfl) (bnd (by omega) (hm hg _ _ _ a hρ) str.size rfl) (by omega) (by omega) (by omega)
    simp only [execOp, ho, ex, Instr.sliceAt, Instr.slice, Sem.run_bind, run_underlying (isStr_some hst), Result.andThen_ok, Option.map_none, Option.isSome_none, Bool.false_eq_true, if_false, hb, Sem.run_pure]
  · rename_i sz es
    obtain ⟨l, h, hl⟩ := evb_sound h
    obtain ⟨m, h, hm⟩ := evb_sound h
    obtain ⟨h1, h2⟩ := h
    refine ⟨_, h2, fun hg w0 F0 β w a hs hρ => ?_⟩
    obtain ⟨hsl, k0, k1, k2⟩ := h1 hg
    obtain ⟨e, inf, g2, g3, rfl⟩ := slElem_some hsl
    obtain ⟨ad, cap, he, hrd, hle, hcm, hn, hne⟩ := rv_lst (hx hg _ _ _ _ (hρ x))
    refine ⟨_, .data (rd_slice hrd l.toNat m.toNat (by omega) (by omega)), fun o w' ho _ => ?_⟩
    have hb := run_bounds (P := P) true es.length cap (lo.map a.eval) (hi.map a.eval) l.toNat m.toNat w' (bnd k0 (hl hg _ _ _ a hρ) 0 rfl) (bnd (by omega) (hm hg _ _ _ a hρ) es.length rfl) (by omega) (by omega) hle
    simp only [execOp, ho, he, Instr.sliceAt, Instr.slice, Sem.run_bind, run_underlying g2, Result.andThen_ok, Option.map_none, hb, Sem.run_pure, sizeOf, typeInfo, run_program, g3]
  · rename_i id len
    split at h
    · obtain ⟨m, h, hm⟩ := evb_sound h
      obtain ⟨h1, h2⟩ := h
      refine ⟨_, h2, fun hg w0 F0 β w a hs hρ => ?_⟩
      obtain ⟨hsl, k1, k2⟩ := h1 hg
      obtain ⟨sz, hsz⟩ := Option.isSome_iff_exists.1 hsl
      obtain ⟨e, inf, g2, g3, rfl⟩ := slElem_some hsz
      rcases rv_arr (hx hg _ _ _ _ (hρ x)) with ⟨b, c, hb, hlc, he⟩ | ⟨hb, h3, he⟩
      · refine ⟨.slice (some ⟨b, 0, none⟩) m.toNat c, .arr _ _ b c hb (by omega), fun o w' ho _ => ?_⟩
        have hb := run_bounds (P := P) true len c none (hi.map a.eval) 0 m.toNat w' (.inl ⟨rfl, rfl⟩) (bnd k1 (hm hg _ _ _ a hρ) len rfl) (by omega) (by omega) hlc
        simp only [execOp, ho, he, Instr.sliceAt, Instr.slice, Sem.run_bind, run_underlying g2, Result.andThen_ok, Option.map_none, hb, Sem.run_pure, sizeOf, typeInfo, run_program, g3, Nat.sub_zero, Nat.zero_mul, Addr.add_zero', Option.map_some, ite_self]
      · subst h3
        have hm0 : m = 0 := by omega
        subst hm0
        refine ⟨.slice none 0 0, .arrNil _ hb, fun o w' ho _ => ?_⟩
        have hb := run_bounds (P := P) true 0 0 none (hi.map a.eval) 0 0 w' (.inl ⟨rfl, rfl⟩) (bnd (Int.le_refl 0) (hm hg _ _ _ a hρ) 0 rfl) (by omega) (by omega) (by omega)
        simp only [execOp, ho, he, Instr.sliceAt, Instr.slice, Sem.run_bind, run_underlying g2, Result.andThen_ok, Option.map_none, hb, Sem.run_pure, sizeOf, typeInfo, run_program, g3, if_true, Nat.sub_zero]
    · obtain ⟨l, h, hl⟩ := evb_sound h
      obtain ⟨m, h, hm⟩ := evb_sound h
      split at h
      · rename_i sz hsz
        obtain ⟨h1, h2⟩ := h
        refine ⟨_, h2, fun hg w0 F0 β w a hs hρ => ?_⟩
        obtain ⟨k0, k1, k2⟩ := h1 hg
        obtain ⟨e, inf, g2, g3, rfl⟩ := slElem_some hsz
        rcases rv_arr (hx hg _ _ _ _ (hρ x)) with ⟨b, c, hb, hlc, he⟩ | ⟨hb, h3, he⟩
        · have hmc : m.toNat ≤ c := by
            rcases k2 with k2 | k2
            · omega
            · exact cap_of hs hb k2
          refine ⟨.slice (if c = l.toNat then some ⟨b, 0, none⟩ else (some (⟨b, 0, none⟩ : Addr)).map (·.add (l.toNat * inf.size))) (m.toNat - l.toNat) (c - l.toNat), ?_, fun o w' ho _ => ?_⟩
          · rw [show (m - l).toNat = m.toNat - l.toNat by omega]
            refine .sub _ _ _ _ _ (fun h0 => ⟨b, c, hb, ?_⟩) (fun hn => ?_) (by omega)
            · rw [if_neg (by omega), Option.map_some, Addr.add_lit, Nat.zero_add]
            · split at hn <;> simp at hn
          · have hb := run_boundsX (P := P) true len c _ (hi.map a.eval) l.toNat m.toNat w' (bnd k0 (hl hg _ _ _ a hρ) 0 rfl) (bnd (by omega) (hm hg _ _ _ a hρ) len rfl) (by omega) (by omega)
            simp only [execOp, ho, he, Instr.sliceAt, Instr.slice, Sem.run_bind, run_underlying g2, Result.andThen_ok, Option.map_none, hb, Sem.run_pure, sizeOf, typeInfo, run_program, g3]
        · subst h3
          have hm0 : m = 0 := by
            rcases k2 with k2 | k2
            · omega
            · have := cap_nil hs hb k2; omega
          subst hm0
          have hl0 : l = 0 := by omega
          subst hl0
          refine ⟨.slice none 0 0, .sub _ _ _ _ _ (fun h0 => absurd h0 (by simp)) (fun _ => rfl) (by simp), fun o w' ho _ => ?_⟩
          have hb := run_bounds (P := P) true 0 0 _ (hi.map a.eval) 0 0 w' (bnd (Int.le_refl 0) (hl hg _ _ _ a hρ) 0 rfl) (bnd (Int.le_refl 0) (hm hg _ _ _ a hρ) 0 rfl) (by omega) (by omega) (by omega)
          simp only [execOp, ho, he, Instr.sliceAt, Instr.slice, Sem.run_bind, run_underlying g2, Result.andThen_ok, Option.map_none, hb, Sem.run_pure, sizeOf, typeInfo, run_program, g3, if_true, Nat.sub_zero]
      · exact h.elim
  · rename_i id off len
    obtain ⟨l, h, hl⟩ := evb_sound h
    obtain ⟨m, h, hm⟩ := evb_sound h
    split at h
    · rename_i sz hsz
      obtain ⟨h1, h2⟩ := h
      refine ⟨_, h2, fun hg w0 F0 β w a hs hρ => ?_⟩
      obtain ⟨k0, k1, k2⟩ := h1 hg
      obtain ⟨e, inf, g2, g3, rfl⟩ := slElem_some hsz
      obtain ⟨ad, n, he, q1, q2, q3⟩ := rv_sub (hx hg _ _ _ _ (hρ x))
      refine ⟨.slice (if n = l.toNat then ad else ad.map (·.add (l.toNat * inf.size))) (m.toNat - l.toNat) (n - l.toNat), ?_, fun o w' ho _ => ?_⟩
      · rw [show (m - l).toNat = m.toNat - l.toNat by omega]
        exact rv_subsub q1 q2 (by omega) (by omega) (by omega)
      · have hb := run_bounds (P := P) true len n (lo.map a.eval) (hi.map a.eval) l.toNat m.toNat w' (bnd k0 (hl hg _ _ _ a hρ) 0 rfl) (bnd (by omega) (hm hg _ _ _ a hρ) len rfl) (by omega) (by omega) q3
        simp only [execOp, ho, he, Instr.sliceAt, Instr.slice, Sem.run_bind, run_underlying g2, Result.andThen_ok, Option.map_none, hb, Sem.run_pure, sizeOf, typeInfo, run_program, g3]
    · exact h.elim
  · exact h.elim
theorem sound_slice3 {t : TypeId} {x mx : Operand} {lo hi : Option Operand} (h : dq P s ρ g (.slice t x lo hi (some mx)) K) : ∃ d, K d ∧ (g = true → QSem P s (.slice t x lo hi (some mx)) ρ d) := by
  simp only [dq] at h
  obtain ⟨dx, h, hx⟩ := evg_sound _ h
  have bnd : ∀ {o : Option Operand} {i z : Int} {a : Act} (_ : 0 ≤ i), ((o = none ∧ i = z) ∨ ∃ x k, o = some x ∧ a.eval x = .int k i) → ∀ (n : Nat), z = n →
      (o.map a.eval = none ∧ i.toNat = n) ∨ ∃ k, o.map a.eval = some (.int k (i.toNat : Int)) := fun hi h n hz => by
    rcases h with ⟨rfl, rfl⟩ | ⟨x, k, rfl, e⟩
    · exact .inl ⟨rfl, by omega⟩
    · exact .inr ⟨k, by simp only [Option.map_some, e, Int.toNat_of_nonneg hi]⟩
  have bnh : ∀ {o : Option Operand} {i z : Int} {a : Act} (_ : 0 ≤ i) (_ : o.isSome = true), ((o = none ∧ i = z) ∨ ∃ x k, o = some x ∧ a.eval x = .int k i) →
      ∃ k, o.map a.eval = some (.int k (i.toNat : Int)) := fun hi ho h => by
    rcases h with ⟨rfl, rfl⟩ | ⟨x, k, rfl, e⟩
    · simp at ho
    · exact ⟨k, by simp only [Option.map_some, e, Int.toNat_of_nonneg hi]⟩
  split at h
  · rename_i sz es
    obtain ⟨l, h, hl⟩ := evb_sound h
    obtain ⟨m, h, hm⟩ := evb_sound h
    obtain ⟨u, h, hu⟩ := evb_sound h
    obtain ⟨h1, h2⟩ := h
    refine ⟨_, h2, fun hg w0 F0 β w a hs hρ => ?_⟩
    obtain ⟨hhi, hsl, k0, k1, k2, k3⟩ := h1 hg
    obtain ⟨e, inf, g2, g3, rfl⟩ := slElem_some hsl
    obtain ⟨ad, cap, he, hrd, hle, hcm, hn, hne⟩ := rv_lst (hx hg _ _ _ _ (hρ x))
    refine ⟨_, .data (rd_slice3 hrd l.toNat m.toNat u.toNat (by omega) (by omega) (by omega)), fun o w' ho _ => ?_⟩
    have hb := run_bounds3 (P := P) true es.length cap (lo.map a.eval) (hi.map a.eval) ((some mx).map a.eval) l.toNat m.toNat u.toNat w' (bnd k0 (hl hg _ _ _ a hρ) 0 rfl) (bnh (by omega) hhi (hm hg _ _ _ a hρ)) (bnh (by omega) rfl (hu hg _ _ _ a hρ)) (by omega) (by omega) (by omega)
    simp only [execOp, ho, he, Instr.sliceAt, Instr.slice, Sem.run_bind, run_underlying g2, Result.andThen_ok, hb, Sem.run_pure, sizeOf, typeInfo, run_program, g3]
  · rename_i id len
    obtain ⟨l, h, hl⟩ := evb_sound h
    obtain ⟨m, h, hm⟩ := evb_sound h
    obtain ⟨u, h, hu⟩ := evb_sound h
    split at h
    · rename_i sz hsz
      obtain ⟨h1, h2⟩ := h
      refine ⟨_, h2, fun hg w0 F0 β w a hs hρ => ?_⟩
      obtain ⟨hhi, k0, k1, k2, k3⟩ := h1 hg
      obtain ⟨e, inf, g2, g3, rfl⟩ := slElem_some hsz
      have main : ∀ ad n, a.eval x = .slice ad len n → (0 < len → ∃ b c, β id = some (some (b, c)) ∧ ad = some ⟨b, 0, none⟩) → (ad = none → n = 0) → len ≤ n →
          ∃ v, RV w F0 β (.sub id (l.toNat * inf.size) (m - l).toNat) v ∧ ∀ (o : Oper) w', o.op = .slice t x lo hi (some mx) → Kp F0 s β w w' → (execOp a.eval o).run P w' = .ok (.value v) w' := fun ad n he q1 q2 q3 => by
        refine ⟨.slice (if u.toNat = l.toNat then ad else ad.map (·.add (l.toNat * inf.size))) (m.toNat - l.toNat) (u.toNat - l.toNat), ?_, fun o w' ho _ => ?_⟩
        · rw [show (m - l).toNat = m.toNat - l.toNat by omega]
          have := rv_subsub (F := F0) (w := w) (β := β) (id := id) (off := 0) (len := len) (n := u.toNat) (l := l.toNat) (m := m.toNat) (sz := inf.size) q1 (fun e => by have := q2 e; omega) (by omega) (by omega) (by omega)
          rwa [Nat.zero_add] at this
        · have hb := run_bounds3 (P := P) true len n (lo.map a.eval) (hi.map a.eval) ((some mx).map a.eval) l.toNat m.toNat u.toNat w' (bnd k0 (hl hg _ _ _ a hρ) 0 rfl) (bnh (by omega) hhi (hm hg _ _ _ a hρ)) (bnh (by omega) rfl (hu hg _ _ _ a hρ)) (by omega) (by omega) (by omega)
          simp only [execOp, ho, he, Instr.sliceAt, Instr.slice, Sem.run_bind, run_underlying g2, Result.andThen_ok, hb, Sem.run_pure, sizeOf, typeInfo, run_program, g3]
      rcases rv_arr (hx hg _ _ _ _ (hρ x)) with ⟨b, c, hb, hlc, he⟩ | ⟨hb, h3, he⟩
      · exact main _ _ he (fun _ => ⟨b, c, hb, rfl⟩) (fun h => by cases h) hlc
      · subst h3
        exact main _ _ he (fun h => absurd h (by omega)) (fun _ => rfl) (Nat.le_refl _)
    · exact h.elim
  · rename_i id off len
    obtain ⟨l, h, hl⟩ := evb_sound h
    obtain ⟨m, h, hm⟩ := evb_sound h
    obtain ⟨u, h, hu⟩ := evb_sound h
    split at h
    · rename_i sz hsz
      obtain ⟨h1, h2⟩ := h
      refine ⟨_, h2, fun hg w0 F0 β w a hs hρ => ?_⟩
      obtain ⟨hhi, k0, k1, k2, k3⟩ := h1 hg
      obtain ⟨e, inf, g2, g3, rfl⟩ := slElem_some hsz
      obtain ⟨ad, n, he, q1, q2, q3⟩ := rv_sub (hx hg _ _ _ _ (hρ x))
      refine ⟨.slice (if u.toNat = l.toNat then ad else ad.map (·.add (l.toNat * inf.size))) (m.toNat - l.toNat) (u.toNat - l.toNat), ?_, fun o w' ho _ => ?_⟩
      · rw [show (m - l).toNat = m.toNat - l.toNat by omega]
        exact rv_subsub q1 (fun e => by have := q2 e; omega) (by omega) (by omega) (by omega)
      · have hb := run_bounds3 (P := P) true len n (lo.map a.eval) (hi.map a.eval) ((some mx).map a.eval) l.toNat m.toNat u.toNat w' (bnd k0 (hl hg _ _ _ a hρ) 0 rfl) (bnh (by omega) hhi (hm hg _ _ _ a hρ)) (bnh (by omega) rfl (hu hg _ _ _ a hρ)) (by omega) (by omega) (by omega)
        simp only [execOp, ho, he, Instr.sliceAt, Instr.slice, Sem.run_bind, run_underlying g2, Result.andThen_ok, hb, Sem.run_pure, sizeOf, typeInfo, run_program, g3]
    · exact h.elim
  · exact h.elim
theorem sound_extract {x : Operand} {i : Nat} (h : dq P s ρ g (.extract x i) K) : ∃ d, K d ∧ (g = true → QSem P s (.extract x i) ρ d) := by
  simp only [dq] at h
  obtain ⟨dx, h, hx⟩ := evg_sound _ h
  split at h
  · rename_i ds
    obtain ⟨h1, h2⟩ := h
    refine ⟨_, h2, fun hg w0 F0 β w a hs hρ => ?_⟩
    have hlt := h1 hg
    obtain ⟨xs, he, hl, hp⟩ := rv_tup (hx hg _ _ _ _ (hρ x))
    have hlt' : i < xs.length := by omega
    refine ⟨xs[i], ?_, fun o w' ho _ => ?_⟩
    · rw [List.getD_eq_getElem?_getD, List.getElem?_eq_getElem hlt]
      exact hp i _ _ (List.getElem?_eq_getElem hlt) (List.getElem?_eq_getElem hlt')
    · simp [execOp, ho, he, Instr.extract, List.getElem?_eq_getElem hlt']
  · exact h.elim
theorem sound_makeInterface {t : TypeId} {x : Operand} (h : dq P s ρ g (.makeInterface t x) K) : ∃ d, K d ∧ (g = true → QSem P s (.makeInterface t x) ρ d) := by
  simp only [dq] at h
  obtain ⟨h1, h2⟩ := h
  refine ⟨_, h2, fun hg w0 F0 β w a hs hρ => ⟨_, .ifc _ _ _ (hρ x), fun o w' ho _ => ?_⟩⟩
  obtain ⟨k1, k2⟩ := h1 hg
  obtain ⟨d, hd⟩ := Option.isSome_iff_exists.1 k1
  simp only [hd, Option.all_some] at k2
  simp only [execOp, ho, Instr.makeInterface, Sem.run_bind, run_underlying hd, Result.andThen_ok]
  split
  · cases k2
  · simp
theorem rv_map {w : World} {F : Nat → Prop} {β : Beta} (xs : List Operand) (ev : Operand → Value) (hρ : ∀ x, RV w F β (ρ x) (ev x)) :
    ∀ (i : Nat) d y, (xs.map ρ)[i]? = some d → (xs.map ev)[i]? = some y → RV w F β d y := fun i d y h1 h2 => by
  simp only [List.getElem?_map] at h1 h2
  cases hx : xs[i]? with
  | none => simp [hx] at h1
  | some x =>
    simp only [hx, Option.map_some, Option.some.injEq] at h1 h2
    subst h1 h2
    exact hρ x
theorem sound_makeFunc {fn : Fn} {first captured : Array Operand} (h : dq P s ρ g (.makeFunc fn first captured) K) : ∃ d, K d ∧ (g = true → QSem P s (.makeFunc fn first captured) ρ d) := by
  simp only [dq] at h
  refine ⟨_, h, fun hg w0 F0 β w a hs hρ => ⟨.func fn (first.toList.map a.eval).toArray (captured.toList.map a.eval).toArray, .clo _ _ _ _ _ (by simp) (by simp) (rv_map _ _ hρ) (rv_map _ _ hρ), fun o w' ho _ => ?_⟩⟩
  have e : ∀ (xs : Array Operand), (xs.toList.map a.eval).toArray = xs.map a.eval := fun xs => by rw [← Array.toList_map, Array.toArray_toList]
  simp only [execOp, ho, Instr.makeFunc, e, Sem.run_bind, Sem.run_pure, Result.andThen_ok]
end
end Go.Dl


