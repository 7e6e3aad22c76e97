/- What TableRows computes. -/
import Derived.Test.YtlchjjchgebfiaaGreatDoorPkW

namespace Go.Proofs.YtlchjjchgebfiaaGreatDoor
open Go.RowKit Go.Dl Go.Dl.Stb
theorem hideX {w0 : World} {F0 : Nat → Prop} {s : Sto} {β : Beta} {w : World} (h : SRel w0 F0 s β w) (T : List Nat) :
    SRel w0 F0 (s.hide T) β w ∧ ∀ n, Ext n w0 nX s β w (s.hide T) β w := by
  have hsome : ∀ i, ((s.hide T).ob i).isSome = true → (s.ob i).isSome = true := fun i hi => by
    obtain ⟨o, ho⟩ := Option.isSome_iff_exists.1 hi
    rw [(hide_ob ho).1]; rfl
  have hext : ∀ n, Ext n w0 nX s β w (s.hide T) β w := fun n =>
    ⟨fun _ _ _ hp => hp, Nat.le_refl _, fun b hb _ hF => ⟨by
      rcases hF with hF | hF
      · exact .inl hF
      · exact .inr ⟨hF.1, fun i c hi => hF.2 i c (hsome i hi)⟩, rfl⟩⟩
  refine ⟨⟨h.below, fun i oi hi => ?_, fun i j b c1 c2 hi hj => h.inj i j b c1 c2 (hsome i hi) (hsome j hj), fun i hi => ?_, h.up, fun i b c hi hb => h.own i b c (hsome i hi) hb, h.gl⟩, hext⟩
  · rcases h.obs i oi (hide_ob hi).1 with k1 | ⟨b2, c2, cur2, k1, k2, k3, k4, k5, k6, k7⟩
    · exact .inl k1
    · exact .inr ⟨b2, c2, cur2, k1, k2, k3, k4, k5, k6, fun j dj hj => by
        obtain ⟨y, hy, hr⟩ := k7 j dj hj
        exact ⟨y, hy, RV.ext h (Nat.le_refl _) (hext _) hr⟩⟩
  · have := h.nx i hi
    refine ⟨this.1, ?_⟩
    unfold Sto.hide
    simp only
    split
    · rfl
    · exact this.2
theorem tellX {P : Program} {f : FuncId} {args args' : List DV} {s : Sto} {K : DV → Sto → Prop} {r : DV} (T : List Nat) (h : DPure P f args' r) (hd : DWl (fun i => some i) s (Gv s T) args args')
    (hargs : args'.all noIds = true) (hr : noIds r = true) (hK : K r (s.hide T)) : SCall P f args s K := fun w0 F0 β w vals hs hx => by
  obtain ⟨hs', hext⟩ := hideX hs T
  have hx' : Pw w (Fr w0 F0 (s.hide T) β) β args' vals := by
    refine ⟨by rw [← hd.1]; exact hx.1, fun i d' x h1 h2 => ?_⟩
    have hi : i < args.length := by rw [hd.1]; exact (List.getElem?_eq_some_iff.1 h1).1
    have h3 := List.getElem?_eq_getElem hi
    refine DW.rv hs (fun b hb hF => ((hext 0).fr' (fun _ _ h => h) b hb hF).1) (fun id b c hid hb => ?_) (fun i k p e hp => by cases e; exact hp) (fun i e => by cases e) (hd.2 i _ _ h3 h1) (hx.2 i _ _ h3 h2)
    obtain ⟨hid, hob⟩ := hid
    obtain ⟨o, ho⟩ := Option.isSome_iff_exists.1 hob
    have hge : w0.heap.size ≤ b := by
      rcases hs.obs id o ho with k1 | ⟨b2, c2, cur2, k1, k2, _⟩
      · rw [k1.1] at hb; cases hb
      · rw [k1] at hb; cases hb; exact k2
    refine ⟨hs.own id b c hob hb, .inr ⟨hge, fun i c' hi hb' => ?_⟩⟩
    obtain ⟨oi, hoi⟩ := Option.isSome_iff_exists.1 hi
    have e := hs.inj i id b c' c (by rw [(hide_ob hoi).1]; rfl) hob hb' hb
    have := (hide_ob hoi).2
    rw [e] at this
    simp at this
    exact this hid
  have := SCall.data (K := K) h hargs hr hK w0 F0 β w vals hs' hx'
  refine this.mono fun e w' ⟨v, r, s2, β2, he, hk, h1, h2, h3, h4⟩ => ⟨v, r, s2, β2, he, hk, h1, (hext _).trans h2, h3, h4⟩
attribute [local irreducible] Tri SCall TSem ECall Drawn DFun QSem PSem PCall GCall MCall Round Go.Dl.Weak dloadE OW DWl Tells IntKind.wrap Retold ESem
def alI (t : Tb) (s : Nat) : Nat → List (List ByteArray)
  | 0 => []
  | k + 1 => alI t s k ++ (t.rows.take (pgHi t.rows.length s k)).drop (pgLo s k)
theorem alI_is {t : Tb} {s : Nat} (hs : 1 ≤ s) : ∀ {k : Nat}, k ≤ pgs t.rows.length s → alI t s k = t.rows.take (k * s)
  | 0, _ => by rw [Nat.zero_mul]; rfl
  | k + 1, h => by rw [alI, alI_is hs (Nat.le_of_succ_le h), pg_step hs h t.rows rfl]
theorem alI_all {t : Tb} {s : Nat} (hs : 1 ≤ s) : alI t s (pgs t.rows.length s) = t.rows := by rw [alI_is hs (Nat.le_refl _), pg_all hs t.rows rfl]
theorem alI_len {t : Tb} {s : Nat} (hs : 1 ≤ s) {k : Nat} (h : k ≤ pgs t.rows.length s) : (alI t s k).length ≤ t.rows.length := by rw [alI_is hs h, List.length_take]; exact Nat.min_le_right _ _
theorem sz_is (x : Int) : ∃ s : Nat, 1 ≤ s ∧ s ≤ 50 ∧ IntKind.i64.wrap (1 + IntKind.i64.wrap (Int.tmod (IntKind.u64.wrap x) 50)) = (s : Int) := by
  have h0 : 0 ≤ IntKind.u64.wrap x := by
    simp only [IntKind.wrap, IntKind.bits, IntKind.signed]; simp; omega
  rw [Int.tmod_eq_emod_of_nonneg h0]
  have h1 := Int.emod_nonneg (IntKind.u64.wrap x) (show (50 : Int) ≠ 0 by decide)
  have h2 := Int.emod_lt_of_pos (IntKind.u64.wrap x) (show (0 : Int) < 50 by decide)
  generalize IntKind.u64.wrap x % 50 = r at h1 h2
  refine ⟨(1 + r).toNat, by omega, by omega, ?_⟩
  rw [wrapI (x := r) (by omega) (by omega), wrapI (by omega) (by omega)]; omega
theorem at_is (x : Int) {n : Nat} (hn : 1 ≤ n) (hn2 : n ≤ 64) : ∃ k : Nat, k < n ∧ IntKind.i64.wrap (Int.tmod (IntKind.u64.wrap x) (IntKind.u64.wrap (n : Int))) = (k : Int) := by
  have h0 : 0 ≤ IntKind.u64.wrap x := by
    simp only [IntKind.wrap, IntKind.bits, IntKind.signed]; simp; omega
  have hw : IntKind.u64.wrap (n : Int) = (n : Int) := by
    simp only [IntKind.wrap, IntKind.bits, IntKind.signed]; simp; omega
  rw [hw, Int.tmod_eq_emod_of_nonneg h0]
  have h1 := Int.emod_nonneg (IntKind.u64.wrap x) (show (n : Int) ≠ 0 by omega)
  have h2 := Int.emod_lt_of_pos (IntKind.u64.wrap x) (show (0 : Int) < n by omega)
  generalize IntKind.u64.wrap x % n = r at h1 h2
  refine ⟨r.toNat, by omega, ?_⟩
  rw [wrapI (by omega) (by omega)]; omega
set_option maxRecDepth 20000 in
theorem al_1 (l : List (List ByteArray)) : l.length * Tryz.prog.types[22].size ≤ (rowsC l).length := by
  show _ * 1 ≤ _
  rw [rowsC_len]; omega
set_option maxRecDepth 20000 in
theorem al_2 {a n : Nat} {L : List (List ByteArray)} (h : a + L.length ≤ n) (hn : n ≤ 4096) : (a + (L.map rowD).length) * Tryz.prog.types[22].bytes ≤ 140737488355328 := by
  show (_ + _) * 24 ≤ _
  rw [List.length_map]; omega
theorem al_3 {a n : Nat} {L : List (List ByteArray)} (h : a + L.length ≤ n) (hn : n ≤ 4096) : a + (L.map rowD).length ≤ maxLen := by
  rw [List.length_map]
  simp only [maxLen]; omega
theorem al_len {A L B : List (List ByteArray)} (h : B = A ++ L) : A.length + (L.map rowD).length = B.length := by rw [h, List.length_append, List.length_map]
theorem al_push {A L B : List (List ByteArray)} (h : B = A ++ L) : (rowsC A).take (A.length * 1) ++ (L.map rowD).flatten = rowsC B := by
  rw [h, List.take_of_length_le (by rw [rowsC_len]; omega), ← rowsC_eq L, rowsC_map, rowsC_map, rowsC_map, List.map_append]
def toI (t : Tb) (k : Nat) : Nat → Nat
  | 0 => 0
  | j + 1 => toI t k j + cP ((keyL t k).getD j emB) (insL t k t.rows.length)
theorem toI_is (t : Tb) (k : Nat) : ∀ {j : Nat}, j ≤ (keyL t k).length → toI t k j = (((keyL t k).take j).map fun s => cP s (insL t k t.rows.length)).sum
  | 0, _ => rfl
  | j + 1, h => by
    rw [toI, toI_is t k (Nat.le_of_succ_le h), List.take_succ_eq_append_getElem h, List.map_append, List.sum_append, List.getD_eq_getElem?_getD, List.getElem?_eq_getElem h]; simp
theorem toI_all (t : Tb) (k : Nat) : toI t k (keyL t k).length = t.rows.length := by rw [toI_is t k (Nat.le_refl _), List.take_length, keyL_sum]
theorem toI_up (t : Tb) (k : Nat) : ∀ {i j : Nat}, i ≤ j → toI t k i ≤ toI t k j
  | i, 0, h => by rw [Nat.le_zero.1 h]; exact Nat.le_refl _
  | i, j + 1, h => by
    rcases Nat.lt_or_ge j i with h1 | h1
    · rw [show i = j + 1 by omega]; exact Nat.le_refl _
    · exact Nat.le_trans (toI_up t k h1) (Nat.le_add_right _ _)
theorem grp_row {t : Tb} {k j : Nat} (hj : j < (keyL t k).length) : (groupT t k).rows.getD j [] = [(keyL t k).getD j emB, numB ((cP ((keyL t k).getD j emB) (insL t k t.rows.length) : Nat) : Int)] := by
  show ((keyL t k).map _).getD j [] = _
  rw [List.getD_eq_getElem?_getD, List.getElem?_map, List.getElem?_eq_getElem hj, List.getD_eq_getElem?_getD, List.getElem?_eq_getElem hj]
  show [_, numB (getS _ _)] = _
  rw [cnt_is]; rfl
theorem grp_len (t : Tb) (k : Nat) : (groupT t k).rows.length = (keyL t k).length := List.length_map _
theorem key_lt {t : Tb} {k j : Nat} (hj : j + 1 < (keyL t k).length) : lessB ((keyL t k).getD j emB) ((keyL t k).getD (j + 1) emB) = true := by
  have h := List.pairwise_iff_getElem.1 (keyL_inc t k) j (j + 1) (Nat.lt_of_succ_lt hj) hj (Nat.lt_succ_self j)
  rw [List.getD_eq_getElem?_getD, List.getD_eq_getElem?_getD, List.getElem?_eq_getElem hj, List.getElem?_eq_getElem (Nat.lt_of_succ_lt hj)]
  exact h
theorem key_small {t : Tb} (ht : Tbl t) {k : Nat} (hk : k < t.head.length) {j : Nat} (hj : j < (keyL t k).length) : ((keyL t k).getD j emB).size ≤ 1024 := by
  rw [List.getD_eq_getElem?_getD, List.getElem?_eq_getElem hj]
  exact keys_small ht hk (Nat.le_refl _) _ ((sortB_perm _).mem_iff.1 (List.getElem_mem hj))
def ggSt (t : Tb) (ks : List Int) (kk j : Nat) : St := ⟨0, tmOf [(1, ints ks), (4, .ref 0 0), (8, bl false), (17, int1 kk), (18, .ref 1 0), (19, int1 (toI t kk j)), (109, rowsD (groupT t kk).rows), (110, int1 (keyL t kk).length), (111, int1 j)], .of [(0, ⟨25, 2, [strs t.head, rowsD t.rows]⟩), (1, ⟨25, 2, [strs (groupT t kk).head, rowsD (groupT t kk).rows]⟩)] 2⟩
theorem sort_head (t : Tb) (ks : List Int) : (sortL t ks).head = t.head := rfl
theorem fin_ok {a b : Bool} (ha : a = true) (hb : b = true) : (bif bif bif bif bif bif (0 : Int) == 0 then (0 : Int) == 0 else false then true else false then true else false then a else false then b else false then true else false) = true := by subst ha hb; rfl
theorem hx3 {a b : Bool} (h : (a && b) = true) : (a && a && (b == true)) = true := by cases a <;> cases b <;> first | rfl | cases h
theorem sort_ok {t : Tb} (ht : Fitt t) (ks : List Int) (hk : ks.length ≤ 17592186044416) (hr : ∀ k ∈ ks, KIn k) (hok : ∀ k ∈ ks, KeyOk (t.head.map strD).length k) : DPure Tryz.prog 26 [tab t, ints ks] (.tup [tab (sortL t ks), int1 0]) := by
  have hh := ht.head
  have hlh : (t.head.map strD).length = t.head.length := List.length_map _
  exact sort26_D t ks hk hr (fun h => ⟨⟨_, h, ht.row⟩, rfl, ht.rows, by omega⟩) hh.1 (by omega) ⟨ht.rows, fun r h => ht.cp.all r (.inr h)⟩ _ (fun _ => rfl) (fun h => absurd hok h)
theorem sort_no {t : Tb} (ht : Fitt t) (ks : List Int) (hk : ks.length ≤ 17592186044416) (hr : ∀ k ∈ ks, KIn k) (hok : ¬ ∀ k ∈ ks, KeyOk (t.head.map strD).length k) : DPure Tryz.prog 26 [tab t, ints ks] (.tup [tab ⟨[], []⟩, int1 31]) := by
  have hh := ht.head
  have hlh : (t.head.map strD).length = t.head.length := List.length_map _
  exact sort26_D t ks hk hr (fun h => ⟨⟨_, h, ht.row⟩, rfl, ht.rows, by omega⟩) hh.1 (by omega) ⟨ht.rows, fun r h => ht.cp.all r (.inr h)⟩ _ (fun h => absurd h hok) (fun _ => rfl)
theorem sort_len (t : Tb) (ks : List Int) : (sortL t ks).rows.length = t.rows.length := so_rl t ks
def pgSt (t : Tb) (ks : List Int) (s : Nat) (at_ : Int) (k : Nat) : St := ⟨0, tmOf [(1, ints ks), (2, int1 s), (3, int1 at_), (4, .ref 0 0), (8, bl false), (10, int1 (pgs t.rows.length s)), (12, .ref 1 0), (49, int1 (pgs t.rows.length s)), (50, int1 k)], .of [(0, ⟨25, 2, [strs t.head, rowsD t.rows]⟩), (1, ⟨25, 2, [strs t.head, .arr 2 (alI t s k).length]⟩), (2, ⟨22, 1, rowsC (alI t s k)⟩)] 3⟩
theorem gh2 (t : Tb) (k : Nat) : (bif (0 : Int) != 0 then true else ((((groupT t k).head.map strD).length : Nat) : Int) != 2) = false := rfl
theorem wr_ne {n : Nat} (hn : 1 ≤ n) (hn2 : n ≤ 64) (h : IntKind.u64.wrap (n : Int) = 0) : False := by
  have hw : IntKind.u64.wrap (n : Int) = (n : Int) := by
    simp only [IntKind.wrap, IntKind.bits, IntKind.signed]; simp; omega
  omega
attribute [local irreducible] fitB pgV groupT sortL
set_option maxRecDepth 20000 in
set_option maxHeartbeats 4000000 in
theorem rows7_D (t : Tb) (hm : SmlT t) (ks : List Int) (hk : ks.length ≤ 17592186044416) (hr : ∀ k ∈ ks, KIn k) (size at_ : Int) : DPure Tryz.prog 7 [tab t, ints ks, int1 size, int1 at_] (bl true) := by
  refine DFun.data (DFun.body Tryz.func7 rfl (by kernel_rfl) ?_)
  cases hl : lightB t with
  | false =>
    have h0 := light9_D t hm
    rw [hl] at h0
    repeat' (first | with_reducible rfl | ((conv => whnf); first | refine And.intro ?_ ?_ | (intro h; first | with_reducible exact tf_no h | with_reducible exact ft_no h | exact Bool.noConfusion h | with_reducible exact h | (exfalso; simp at h; done) | (have ht : true = true := h; clear ht h) | skip) | ((with_reducible refine SCall.mark ?_); first | refine SCall.data (h0) rfl rfl ?_ | refine SCall.scal (h0) rfl rfl ?_ | refine SCall.data (awake10_D) rfl rfl ?_ | refine SCall.scal (awake10_D) rfl rfl ?_) | ((with_reducible refine PCall.mark ?_); first | refine PCall.mk (h0) rfl rfl ?_ | refine PCall.mk (awake10_D) rfl rfl ?_) | ((with_reducible refine GCall.mark ?_); first | refine GCall.data (fun _ => h0) rfl rfl ?_ | refine GCall.scal (fun _ => h0) rfl rfl ?_ | refine GCall.data (fun _ => awake10_D) rfl rfl ?_ | refine GCall.scal (fun _ => awake10_D) rfl rfl ?_) | ((with_reducible refine MCall.mark ?_); first | refine MCall.data (fun _ => h0) rfl rfl ?_ | refine MCall.plain (PCall.mk (h0) rfl rfl ?_) | refine MCall.data (fun _ => awake10_D) rfl rfl ?_ | refine MCall.plain (PCall.mk (awake10_D) rfl rfl ?_)) | ((with_reducible refine ECall.mark ?_); first | refine ECall.only ?_ (fun h => nomatch h) | refine ECall.only ?_ ?_) | ((with_reducible refine Drawn.mark ?_); first | refine Drawn.quiet (by kernel_rfl) ?_) | refine dcell_ok rfl ?_ | refine AppC.new ?_))
    all_goals try first | ((with_reducible show Option.isSome (slElem _ _) = true); kernel_rfl) | ((with_reducible show slElem _ _ = some _); kernel_rfl) | ((with_reducible refine enters_mark ?_); kernel_rfl) | (with_reducible assumption) | ((with_reducible show List.all _ DV.one = true); rfl) | ((with_reducible show (_ : Nat) = _); rfl) | ((with_reducible show (_ == true) = true); simpa using h) | ((with_reducible show (_ : Nat) ≤ _); exact Nat.le_of_ble_eq_true rfl) | ((with_reducible show (_ : Int) ≤ _); first | omega | decide) | ((with_reducible show (_ : Int) < _); first | omega | decide) | ((with_reducible show (_ : Nat) < _); omega) | ((with_reducible show (_ : Nat) ≤ _); omega)
    conv => whnf
    exact Tells.mk (DW.same _ rfl)
  | true =>
    have h0 := light9_D t hm
    rw [hl] at h0
    have ht := (light_fit hl).1
    have hN := (light_fit hl).2
    have hh := ht.head
    obtain ⟨s, hs1, hs2, hE⟩ := sz_is size
    have hp := fun k (h : k < pgs t.rows.length s) => page22_D t hh.1 (by omega) ⟨ht.rows, fun r h => ht.cp.all r (.inr h)⟩ s k ⟨by omega, by omega⟩ ⟨by omega, by have := pg_le2 (N := t.rows.length) hs1; omega⟩
    have hp0 : DPure Tryz.prog 22 [tab t, int1 (IntKind.i64.wrap (1 + IntKind.i64.wrap (Int.tmod (IntKind.u64.wrap size) 50))), int1 0] (pgR (pgV t s (0 : Nat))) := by rw [hE]; exact hp 0 (pg_pos _ _)
    rw [pgV_at hs1 (pg_pos _ _)] at hp0
    repeat' (first | with_reducible rfl | ((conv => whnf); first | refine And.intro ?_ ?_ | (intro h; first | with_reducible exact tf_no h | with_reducible exact ft_no h | exact Bool.noConfusion h | with_reducible exact h | (exfalso; simp at h; done) | (have ht : true = true := h; clear ht h) | skip) | ((with_reducible refine SCall.mark ?_); first | refine SCall.data (h0) rfl rfl ?_ | refine SCall.scal (h0) rfl rfl ?_ | refine SCall.data (hp0) rfl rfl ?_ | refine SCall.scal (hp0) rfl rfl ?_) | ((with_reducible refine PCall.mark ?_); first | refine PCall.mk (h0) rfl rfl ?_ | refine PCall.mk (hp0) rfl rfl ?_) | ((with_reducible refine GCall.mark ?_); first | refine GCall.data (fun _ => h0) rfl rfl ?_ | refine GCall.scal (fun _ => h0) rfl rfl ?_ | refine GCall.data (fun _ => hp0) rfl rfl ?_ | refine GCall.scal (fun _ => hp0) rfl rfl ?_) | ((with_reducible refine MCall.mark ?_); first | refine MCall.data (fun _ => h0) rfl rfl ?_ | refine MCall.plain (PCall.mk (h0) rfl rfl ?_) | refine MCall.data (fun _ => hp0) rfl rfl ?_ | refine MCall.plain (PCall.mk (hp0) rfl rfl ?_)) | ((with_reducible refine ECall.mark ?_); first | refine ECall.only ?_ (fun h => nomatch h) | refine ECall.only ?_ ?_) | ((with_reducible refine Drawn.mark ?_); first | refine Drawn.quiet (by kernel_rfl) ?_) | refine dcell_ok rfl ?_ | refine AppC.new ?_))
    all_goals try (first | rfl | ((with_reducible (show isKnown _ _ = true)); kernel_rfl) | (exact Nat.le_of_ble_eq_true rfl; done))
    all_goals try first | ((with_reducible show Option.isSome (slElem _ _) = true); kernel_rfl) | ((with_reducible show slElem _ _ = some _); kernel_rfl) | ((with_reducible refine enters_mark ?_); kernel_rfl) | (with_reducible assumption) | ((with_reducible show List.all _ DV.one = true); rfl) | ((with_reducible show (_ : Nat) = _); rfl) | ((with_reducible show (_ == true) = true); simpa using h) | ((with_reducible show (_ : Nat) ≤ _); exact Nat.le_of_ble_eq_true rfl) | ((with_reducible show (_ : Int) ≤ _); first | omega | decide) | ((with_reducible show (_ : Int) < _); first | omega | decide) | ((with_reducible show (_ : Nat) < _); omega) | ((with_reducible show (_ : Nat) ≤ _); omega)
    conv => whnf
    refine Tri.loop (pgSt t ks s at_) (fun k => k ≤ pgs t.rows.length s) (fun k => pgs t.rows.length s - k) 0 (by kernel_rfl) (Go.Dl.Weak.list [(0, some 0), (1, some 2), (2, none)] [] (by kernel_rfl) ?_ ?_) (Nat.zero_le _) ?_
    iterate 2 · repeat' (first | exact DW.nilArr _ rfl | exact hE | exact DW.same _ rfl | exact DW.ref _ _ _ rfl | exact DW.arr _ _ _ rfl | exact OW.cells rfl rfl (DWl.same rfl) | refine OW.cells rfl rfl ?_ | refine DWl.cons ?_ ?_ | exact DWl.nil | exact DW.nilArr _ rfl | exact DW.nilLst _ | refine DW.clol ?_ ?_ | refine DW.aggl ?_ | refine DW.tupl ?_ | refine DW.int ?_ | refine DW.bool ?_ | refine DW.str ?_ | refine DW.arrE rfl ?_ | ((conv => whnf); first | refine And.intro ?_ ?_ | trivial))
    intro k hkp
    have hkp : k ≤ pgs t.rows.length s := hkp
    show dcode _ _ _ _ (pgSt t ks s at_ k) _
    by_cases hkl : k < pgs t.rows.length s
    · have hpk := hp k hkl
      rw [pgV_at hs1 hkl] at hpk
      have hln := pg_small hs1 hkl t.rows
      have hal : alI t s (k + 1) = alI t s k ++ (t.rows.take (pgHi t.rows.length s k)).drop (pgLo s k) := rfl
      have hbd := alI_len hs1 (k := k + 1) hkl
      generalize hL : (t.rows.take (pgHi t.rows.length s k)).drop (pgLo s k) = L at hpk hln hal
      have hpk : DPure Tryz.prog 22 [tab t, int1 s, int1 k] (.tup [tab ⟨t.head, L⟩, int1 ((pgs t.rows.length s : Nat) : Int), int1 0]) := hpk
      have hLn : (alI t s k).length + L.length ≤ t.rows.length := by rw [hal, List.length_append] at hbd; exact hbd
      have hLt : (bif bif ((0 : Int) != 0) then true else ((pgs t.rows.length s : Nat) : Int) != ((pgs t.rows.length s : Nat) : Int) then true else decide ((s : Int) < (((L.map rowD).length : Nat) : Int))) = false := by
        rw [bne_self_eq_false, bne_self_eq_false, decide_eq_false (by rw [List.length_map]; omega)]; rfl
      repeat' (first | with_reducible rfl | ((conv => whnf); first | refine And.intro ?_ ?_ | (intro h; first | with_reducible exact tf_no h | with_reducible exact ft_no h | exact Bool.noConfusion h | with_reducible exact h | (exfalso; exact of_decide_eq_false h (Int.ofNat_lt.2 hkl)) | (exfalso; exact bt_x hLt h) | (exfalso; simp at h; done) | (have ht : true = true := h; clear ht h) | skip) | ((with_reducible refine SCall.mark ?_); first | refine SCall.data (hpk) rfl rfl ?_ | refine SCall.scal (hpk) rfl rfl ?_) | ((with_reducible refine PCall.mark ?_); first | refine PCall.mk (hpk) rfl rfl ?_) | ((with_reducible refine GCall.mark ?_); first | refine GCall.data (fun _ => hpk) rfl rfl ?_ | refine GCall.scal (fun _ => hpk) rfl rfl ?_) | ((with_reducible refine MCall.mark ?_); first | refine MCall.data (fun _ => hpk) rfl rfl ?_ | refine MCall.plain (PCall.mk (hpk) rfl rfl ?_)) | ((with_reducible refine ECall.mark ?_); first | refine ECall.only ?_ (fun h => nomatch h) | refine ECall.only ?_ ?_) | ((with_reducible refine Drawn.mark ?_); first | refine Drawn.quiet (by kernel_rfl) ?_) | refine dcell_ok rfl ?_ | refine AppC.new ?_))
      all_goals try ((conv => whnf); with_reducible refine Round.mark ?_)
      all_goals try (first | (with_reducible exact tnb h) | (exact Nat.le_of_ble_eq_true rfl; done))
      all_goals try first | ((with_reducible show Option.isSome (slElem _ _) = true); kernel_rfl) | ((with_reducible show slElem _ _ = some _); kernel_rfl) | ((with_reducible refine enters_mark ?_); kernel_rfl) | (with_reducible assumption) | ((with_reducible show List.all _ DV.one = true); rfl) | ((with_reducible show (_ : Nat) = _); rfl) | ((with_reducible show (_ == true) = true); simpa using h) | ((with_reducible show (_ : Nat) ≤ _); exact Nat.le_of_ble_eq_true rfl) | ((with_reducible show (_ : Int) ≤ _); first | omega | decide) | ((with_reducible show (_ : Int) < _); first | omega | decide) | ((with_reducible show (_ : Nat) < _); omega) | ((with_reducible show (_ : Nat) ≤ _); omega)
      all_goals try (first | ((with_reducible show (_ == false) = true); rfl) | (exact al_1 _; done) | (exact al_2 hLn ht.rows; done) | (exact al_3 hLn ht.rows; done))
      refine Round.go (fun _ => k + 1) hkl (by show pgs t.rows.length s - (k + 1) < pgs t.rows.length s - k; omega) (Go.Dl.Weak.list [(0, some 0), (1, some 1), (2, some 4)] [] (by kernel_rfl) ?_ ?_)
      iterate 2 · repeat' (first | exact wsucc hkl (by have := pg_le2 (N := t.rows.length) hs1; omega) | exact al_len hal | exact DWl.eq (al_push hal) (rowsC_all _) | exact DW.same _ rfl | exact DW.ref _ _ _ rfl | exact DW.arr _ _ _ rfl | exact OW.cells rfl rfl (DWl.same rfl) | refine OW.cells rfl rfl ?_ | refine DWl.cons ?_ ?_ | exact DWl.nil | exact DW.nilArr _ rfl | exact DW.nilLst _ | refine DW.clol ?_ ?_ | refine DW.aggl ?_ | refine DW.tupl ?_ | refine DW.int ?_ | refine DW.bool ?_ | refine DW.str ?_ | refine DW.arrE rfl ?_ | ((conv => whnf); first | refine And.intro ?_ ?_ | trivial))
    · have hke : k = pgs t.rows.length s := by omega
      have hall : alI t s k = t.rows := by rw [hke]; exact alI_all hs1
      obtain ⟨kk, hkk, hK⟩ := at_is at_ (n := (t.head.map strD).length) (by rw [List.length_map]; exact hh.1) (by rw [List.length_map]; exact hh.2)
      have hkk2 : kk < t.head.length := by rw [List.length_map] at hkk; exact hkk
      have hgr : DPure Tryz.prog 23 [tab t, int1 (IntKind.i64.wrap (Int.tmod (IntKind.u64.wrap at_) (IntKind.u64.wrap (((t.head.map strD).length : Nat) : Int))))] (.tup [tab (groupT t kk), int1 0]) := group23_D t ht.tbl _ kk hkk2 hK
      have hsm := same16_D t hm
      have hlh : 1 ≤ (t.head.map strD).length ∧ (t.head.map strD).length ≤ 64 := by rw [List.length_map]; exact hh
      repeat' (first | with_reducible rfl | ((conv => whnf); first | refine And.intro ?_ ?_ | (intro h; first | with_reducible exact tf_no h | with_reducible exact ft_no h | exact Bool.noConfusion h | with_reducible exact h | (exfalso; exact hkl (lt_int h)) | (exfalso; exact bt_x (gh2 t kk) h) | (exfalso; simp at h; done) | (have ht : true = true := h; clear ht h) | skip) | ((with_reducible refine DWl.mark ?_); repeat' (first | refine DWl.cons ?_ ?_ | exact DWl.nil | exact DW.same _ rfl | exact DW.ref _ _ _ rfl | exact DW.arr _ _ _ rfl | exact DW.sub _ _ _ _ rfl | exact DW.mo _ _ rfl | exact DW.nilLst _ | refine DW.aggl ?_ | refine DW.tupl ?_ | refine DW.clol ?_ ?_ | exact DW.pubG rfl (congrArg List.length hall).symm rfl rfl rfl rowRow ((congrArg rowsC hall).trans (rowsC_eq _)) | refine DW.int ?_ | refine DW.bool ?_ | refine DW.str ?_)) | ((with_reducible refine SCall.mark ?_); first | refine tellX [2] hsm ?_ rfl rfl ?_ | refine SCall.data (hgr) rfl rfl ?_ | refine SCall.scal (hgr) rfl rfl ?_) | ((with_reducible refine PCall.mark ?_); first | refine PCall.mk (hgr) rfl rfl ?_) | ((with_reducible refine GCall.mark ?_); first | refine GCall.data (fun _ => hgr) rfl rfl ?_ | refine GCall.scal (fun _ => hgr) rfl rfl ?_) | ((with_reducible refine MCall.mark ?_); first | refine MCall.data (fun _ => hgr) rfl rfl ?_ | refine MCall.plain (PCall.mk (hgr) rfl rfl ?_)) | ((with_reducible refine ECall.mark ?_); first | refine ECall.only ?_ (fun h => nomatch h) | refine ECall.only ?_ ?_) | ((with_reducible refine Drawn.mark ?_); first | refine Drawn.quiet (by kernel_rfl) ?_) | refine dcell_ok rfl ?_ | refine AppC.new ?_))
      all_goals try (first | rfl | ((with_reducible (show isKnown _ _ = true)); kernel_rfl) | (exact Nat.le_of_ble_eq_true rfl; done) | ((with_reducible show False); exact wr_ne hlh.1 hlh.2 h))
      all_goals try first | ((with_reducible show Option.isSome (slElem _ _) = true); kernel_rfl) | ((with_reducible show slElem _ _ = some _); kernel_rfl) | ((with_reducible refine enters_mark ?_); kernel_rfl) | (with_reducible assumption) | ((with_reducible show List.all _ DV.one = true); rfl) | ((with_reducible show (_ : Nat) = _); rfl) | ((with_reducible show (_ == true) = true); simpa using h) | ((with_reducible show (_ : Nat) ≤ _); exact Nat.le_of_ble_eq_true rfl) | ((with_reducible show (_ : Int) ≤ _); first | omega | decide) | ((with_reducible show (_ : Int) < _); first | omega | decide) | ((with_reducible show (_ : Nat) < _); omega) | ((with_reducible show (_ : Nat) ≤ _); omega)
      conv => whnf
      have hgl := grp_len t kk
      refine Tri.loop (ggSt t ks kk) (fun j => j ≤ (keyL t kk).length) (fun j => (keyL t kk).length - j) 0 (by kernel_rfl) (Go.Dl.Weak.list [(0, some 0), (1, some 3)] [] (by kernel_rfl) ?_ ?_) (Nat.zero_le _) ?_
      iterate 2 · repeat' (first | exact hK | exact (congrArg (fun n : Nat => (n : Int)) ((List.length_map _).trans hgl)) | exact DW.same _ rfl | exact DW.ref _ _ _ rfl | exact DW.arr _ _ _ rfl | exact OW.cells rfl rfl (DWl.same rfl) | refine OW.cells rfl rfl ?_ | refine DWl.cons ?_ ?_ | exact DWl.nil | exact DW.nilArr _ rfl | exact DW.nilLst _ | refine DW.clol ?_ ?_ | refine DW.aggl ?_ | refine DW.tupl ?_ | refine DW.int ?_ | refine DW.bool ?_ | refine DW.str ?_ | refine DW.arrE rfl ?_ | ((conv => whnf); first | refine And.intro ?_ ?_ | trivial))
      intro j hj
      have hj : j ≤ (keyL t kk).length := hj
      have htl : (keyL t kk).length ≤ 4096 := by
        show (sortB _).length ≤ _
        rw [sortB_len]
        have := keys_len t kk t.rows.length
        have := ht.rows
        omega
      show dcode _ _ _ _ (ggSt t ks kk j) _
      by_cases hjl : j < (keyL t kk).length
      · have hlj : (j : Int) < ((((groupT t kk).rows.map rowD).length : Nat) : Int) := by rw [List.length_map, hgl]; omega
        have hrj : ((groupT t kk).rows.getD ((j : Nat) : Int).toNat []) = [(keyL t kk).getD j emB, numB ((cP ((keyL t kk).getD j emB) (insL t kk t.rows.length) : Nat) : Int)] := by rw [Int.toNat_natCast]; exact grp_row hjl
        have hln : (((((groupT t kk).rows.getD ((j : Nat) : Int).toNat []).map strD).length : Nat) : Int) = 2 := by rw [hrj]; rfl
        have hne : ((((((groupT t kk).rows.getD ((j : Nat) : Int).toNat []).map strD).length : Nat) : Int) != 2) = false := by rw [hln]; rfl
        have hlen : (1 : Int) < ((((groupT t kk).rows.getD ((j : Nat) : Int).toNat []).map strD).length : Nat) := by rw [hln]; decide
        have hlen2 : Int.toNat 1 < ((groupT t kk).rows.getD ((j : Nat) : Int).toNat []).length := by rw [hrj]; exact Nat.lt_succ_self 1
        have hjn : ((j : Nat) : Int).toNat < (groupT t kk).rows.length := by rw [Int.toNat_natCast, hgl]; exact hjl
        have hx2 : ∀ {b : Bool}, b = true → (b && b) = true := fun h => by rw [h]; rfl
        have hcb : cP ((keyL t kk).getD j emB) (insL t kk t.rows.length) ≤ t.rows.length := by
          have h1 := toI_up t kk (show j + 1 ≤ (keyL t kk).length from hjl)
          rw [toI_all, toI] at h1
          omega
        have hsum : IntKind.i64.wrap (((toI t kk j : Nat) : Int) + ((cP ((keyL t kk).getD j emB) (insL t kk t.rows.length) : Nat) : Int)) = ((toI t kk (j + 1) : Nat) : Int) := by
          have h1 := toI_up t kk (show j + 1 ≤ (keyL t kk).length from hjl)
          rw [toI_all] at h1
          have h2 := ht.rows
          rw [toI] at h1 ⊢
          rw [wrapI (by omega) (by omega)]; omega
        have hnm : DPure Tryz.prog 25 [strV (((groupT t kk).rows.getD ((j : Nat) : Int).toNat []).getD (Int.toNat 1) emB)] (.tup [int1 ((cP ((keyL t kk).getD j emB) (insL t kk t.rows.length) : Nat) : Int), bl (numOk (((groupT t kk).rows.getD ((j : Nat) : Int).toNat []).getD (Int.toNat 1) emB))]) := by
          have h2 := ht.rows
          rw [hrj]
          have := number25_E (numB ((cP ((keyL t kk).getD j emB) (insL t kk t.rows.length) : Nat) : Int)) (Nat.le_trans (numB_size (by omega) (by omega)) (by decide))
          rw [num_nat (by omega)] at this
          exact this
        cases j with
        | zero =>
          have hT : (bif ((((((groupT t kk).rows.getD ((0 : Nat) : Int).toNat []).map strD).length : Nat) : Int) != 2) then true else bif decide ((0 : Int) < ((0 : Nat) : Int)) then !true else false) = false := by rw [hne]; rfl
          repeat' (first | with_reducible rfl | ((conv => whnf); first | refine And.intro ?_ ?_ | (intro h; first | with_reducible exact tf_no h | with_reducible exact ft_no h | exact Bool.noConfusion h | with_reducible exact h | (exfalso; exact of_decide_eq_false h (Int.ofNat_lt.2 hjl)) | (exfalso; exact bt_x hT h) | (exfalso; simp at h; done) | (have ht : true = true := h; clear ht h) | skip) | ((with_reducible refine SCall.mark ?_); first | refine SCall.data (hnm) rfl rfl ?_ | refine SCall.scal (hnm) rfl rfl ?_) | ((with_reducible refine PCall.mark ?_); first | refine PCall.mk (hnm) rfl rfl ?_) | ((with_reducible refine GCall.mark ?_); first | refine GCall.data (fun _ => hnm) rfl rfl ?_ | refine GCall.scal (fun _ => hnm) rfl rfl ?_) | ((with_reducible refine MCall.mark ?_); first | refine MCall.data (fun _ => hnm) rfl rfl ?_ | refine MCall.plain (PCall.mk (hnm) rfl rfl ?_)) | ((with_reducible refine Tri.mark ?_); first | (refine Tri.treeX [] (MX.mv 0 0 (MX.mv 0 1 (MX.mv 0 2 (MX.mv 0 3 (MX.mv 0 4 (MX.mv 0 5 (MX.mv 0 6 (MX.mv 0 7 (MX.mv 0 8 (MX.mv 0 9 (MX.mv 0 10 (MX.mv 0 11 (MX.mv 0 12 (MX.mv 0 13 (MX.mv 0 14 (MX.mv 0 15 (MX.mv 0 16 (MX.mv 0 17 (MX.mv 2 18 (MX.mv 0 19 (MX.mv 0 20 (MX.mv 0 21 MX.done)))))))))))))))))))))) ?_ (by kernel_rfl) ?_; rfl)) | ((with_reducible refine ECall.mark ?_); first | refine ECall.alt (bl true) ?_ ?_ | refine ECall.only ?_ (fun h => nomatch h) | refine ECall.only ?_ ?_) | ((with_reducible refine Drawn.mark ?_); first | (refine Drawn.tree ?_; refine Tri.treeX [] (MX.mv 0 0 (MX.mv 0 1 (MX.mv 0 2 (MX.mv 0 3 (MX.mv 0 4 (MX.mv 0 5 (MX.mv 0 6 (MX.mv 0 7 (MX.mv 0 8 (MX.mv 0 9 (MX.mv 0 10 (MX.mv 0 11 (MX.mv 0 12 (MX.mv 0 13 (MX.mv 0 14 (MX.mv 0 15 (MX.mv 0 16 (MX.mv 0 17 (MX.mv 2 18 (MX.mv 0 19 (MX.mv 0 20 (MX.mv 0 21 MX.done)))))))))))))))))))))) ?_ (by kernel_rfl) ?_; rfl) | refine Drawn.quiet (by kernel_rfl) ?_) | refine dloadE_map (([] : List ByteArray)) ?_ ?_ | refine dloadE_map (emB) ?_ ?_ | refine dcell_ok rfl ?_ | refine AppC.new ?_))
          all_goals try first | ((with_reducible show Option.isSome (slElem _ _) = true); kernel_rfl) | ((with_reducible show slElem _ _ = some _); kernel_rfl) | ((with_reducible refine enters_mark ?_); kernel_rfl) | (with_reducible assumption) | ((with_reducible show List.all _ DV.one = true); rfl) | ((with_reducible show (_ : Nat) = _); rfl) | ((with_reducible show (_ == true) = true); simpa using h) | ((with_reducible show (_ : Nat) ≤ _); exact Nat.le_of_ble_eq_true rfl) | ((with_reducible show (_ : Int) ≤ _); first | omega | decide) | ((with_reducible show (_ : Int) < _); first | omega | decide) | ((with_reducible show (_ : Nat) < _); omega) | ((with_reducible show (_ : Nat) ≤ _); omega)
          all_goals try ((conv => whnf); with_reducible refine Round.mark ?_)
          all_goals try (first | (with_reducible exact tnb h) | (with_reducible exact hx2 h) | (exact hlen; done) | (exact hlen2; done) | (with_reducible exact hlj) | (exact hjn; done) | (exact Nat.le_of_ble_eq_true rfl; done))
          refine Round.go (fun _ => 0 + 1) hjl (by show (keyL t kk).length - (0 + 1) < (keyL t kk).length - 0; omega) (Go.Dl.Weak.list [(0, some 0), (1, some 1)] [] (by kernel_rfl) ?_ ?_)
          iterate 2 · repeat' (first | exact wsucc hjl (by omega) | exact hsum | exact DW.same _ rfl | exact DW.ref _ _ _ rfl | exact DW.arr _ _ _ rfl | exact OW.cells rfl rfl (DWl.same rfl) | refine OW.cells rfl rfl ?_ | refine DWl.cons ?_ ?_ | exact DWl.nil | exact DW.nilArr _ rfl | exact DW.nilLst _ | refine DW.clol ?_ ?_ | refine DW.aggl ?_ | refine DW.tupl ?_ | refine DW.int ?_ | refine DW.bool ?_ | refine DW.str ?_ | refine DW.arrE rfl ?_ | ((conv => whnf); first | refine And.intro ?_ ?_ | trivial))
        | succ j =>
          have hj4 : j ≤ 4096 := by omega
          have hjl0 : j < (keyL t kk).length := by omega
          have hrp : (groupT t kk).rows.getD (IntKind.i64.wrap (((j + 1 : Nat) : Int) - 1)).toNat [] = [(keyL t kk).getD j emB, numB ((cP ((keyL t kk).getD j emB) (insL t kk t.rows.length) : Nat) : Int)] := by rw [ix_w hj4, Int.toNat_natCast]; exact grp_row hjl0
          have q0 : 0 ≤ IntKind.i64.wrap (((j + 1 : Nat) : Int) - 1) := by rw [ix_w hj4]; omega
          have q1 : IntKind.i64.wrap (((j + 1 : Nat) : Int) - 1) < ((((groupT t kk).rows.map rowD).length : Nat) : Int) := by rw [ix_w hj4, List.length_map, hgl]; omega
          have q2 : (IntKind.i64.wrap (((j + 1 : Nat) : Int) - 1)).toNat < (groupT t kk).rows.length := by rw [ix_w hj4, Int.toNat_natCast, hgl]; exact hjl0
          have q3 : (0 : Int) < ((((groupT t kk).rows.getD (IntKind.i64.wrap (((j + 1 : Nat) : Int) - 1)).toNat []).map strD).length : Nat) := by rw [hrp]; exact Int.ofNat_lt.2 (Nat.zero_lt_succ _)
          have q4 : Int.toNat 0 < ((groupT t kk).rows.getD (IntKind.i64.wrap (((j + 1 : Nat) : Int) - 1)).toNat []).length := by rw [hrp]; exact Nat.zero_lt_succ _
          have q5 : (0 : Int) < ((((groupT t kk).rows.getD ((j + 1 : Nat) : Int).toNat []).map strD).length : Nat) := by rw [hrj]; exact Int.ofNat_lt.2 (Nat.zero_lt_succ _)
          have q6 : Int.toNat 0 < ((groupT t kk).rows.getD ((j + 1 : Nat) : Int).toNat []).length := by rw [hrj]; exact Nat.zero_lt_succ _
          have hle : DPure Tryz.prog 24 [strV (((groupT t kk).rows.getD (IntKind.i64.wrap (((j + 1 : Nat) : Int) - 1)).toNat []).getD (Int.toNat 0) emB), strV (((groupT t kk).rows.getD ((j + 1 : Nat) : Int).toNat []).getD (Int.toNat 0) emB)] (bl true) := by
            rw [hrp, hrj]
            have := less24_D ((keyL t kk).getD j emB) ((keyL t kk).getD (j + 1) emB) (key_small ht.tbl hkk2 hjl0) (key_small ht.tbl hkk2 hjl)
            rw [key_lt hjl] at this
            exact this
          have hT : (bif ((((((groupT t kk).rows.getD ((j + 1 : Nat) : Int).toNat []).map strD).length : Nat) : Int) != 2) then true else bif decide ((0 : Int) < ((j + 1 : Nat) : Int)) then !true else false) = false := by rw [hne, decide_eq_true (by omega)]; rfl
          repeat' (first | with_reducible rfl | ((conv => whnf); first | refine And.intro ?_ ?_ | (intro h; first | with_reducible exact tf_no h | with_reducible exact ft_no h | exact Bool.noConfusion h | with_reducible exact h | (exfalso; exact of_decide_eq_false h (Int.ofNat_lt.2 hjl)) | (exfalso; exact bt_x hT h) | (exfalso; simp at h; done) | (have ht : true = true := h; clear ht h) | skip) | ((with_reducible refine SCall.mark ?_); first | refine SCall.data (hnm) rfl rfl ?_ | refine SCall.scal (hnm) rfl rfl ?_) | ((with_reducible refine PCall.mark ?_); first | refine PCall.mk (hnm) rfl rfl ?_) | ((with_reducible refine GCall.mark ?_); first | refine GCall.data (fun _ => hnm) rfl rfl ?_ | refine GCall.scal (fun _ => hnm) rfl rfl ?_) | ((with_reducible refine MCall.mark ?_); first | refine MCall.data (fun _ => hnm) rfl rfl ?_ | refine MCall.plain (PCall.mk (hnm) rfl rfl ?_)) | ((with_reducible refine Tri.mark ?_); first | (refine Tri.treeX [] (MX.mv 0 0 (MX.mv 0 1 (MX.mv 0 2 (MX.mv 0 3 (MX.mv 0 4 (MX.mv 0 5 (MX.mv 0 6 (MX.mv 0 7 (MX.mv 0 8 (MX.mv 0 9 (MX.mv 0 10 (MX.mv 0 11 (MX.mv 0 12 (MX.mv 0 13 (MX.mv 0 14 (MX.mv 0 15 (MX.mv 0 16 (MX.mv 0 17 (MX.mv 2 18 (MX.mv 0 19 (MX.mv 0 20 (MX.mv 0 21 MX.done)))))))))))))))))))))) ?_ (by kernel_rfl) ?_; rfl)) | ((with_reducible refine ECall.mark ?_); first | refine ECall.alt (bl true) (fun _ => SCall.data hle rfl rfl ?_) ?_ | refine ECall.only ?_ (fun h => nomatch h) | refine ECall.only ?_ ?_) | ((with_reducible refine Drawn.mark ?_); first | (refine Drawn.tree ?_; refine Tri.treeX [] (MX.mv 0 0 (MX.mv 0 1 (MX.mv 0 2 (MX.mv 0 3 (MX.mv 0 4 (MX.mv 0 5 (MX.mv 0 6 (MX.mv 0 7 (MX.mv 0 8 (MX.mv 0 9 (MX.mv 0 10 (MX.mv 0 11 (MX.mv 0 12 (MX.mv 0 13 (MX.mv 0 14 (MX.mv 0 15 (MX.mv 0 16 (MX.mv 0 17 (MX.mv 2 18 (MX.mv 0 19 (MX.mv 0 20 (MX.mv 0 21 MX.done)))))))))))))))))))))) ?_ (by kernel_rfl) ?_; rfl) | refine Drawn.quiet (by kernel_rfl) ?_) | refine dloadE_map (([] : List ByteArray)) ?_ ?_ | refine dloadE_map (emB) ?_ ?_ | refine dcell_ok rfl ?_ | refine AppC.new ?_))
          all_goals try first | ((with_reducible show Option.isSome (slElem _ _) = true); kernel_rfl) | ((with_reducible show slElem _ _ = some _); kernel_rfl) | ((with_reducible refine enters_mark ?_); kernel_rfl) | (with_reducible assumption) | ((with_reducible show List.all _ DV.one = true); rfl) | ((with_reducible show (_ : Nat) = _); rfl) | ((with_reducible show (_ == true) = true); simpa using h) | ((with_reducible show (_ : Nat) ≤ _); exact Nat.le_of_ble_eq_true rfl) | ((with_reducible show (_ : Int) ≤ _); first | omega | decide) | ((with_reducible show (_ : Int) < _); first | omega | decide) | ((with_reducible show (_ : Nat) < _); omega) | ((with_reducible show (_ : Nat) ≤ _); omega)
          all_goals try ((conv => whnf); with_reducible refine Round.mark ?_)
          all_goals try (first | (with_reducible exact tnb h) | (with_reducible exact hx2 h) | (exact hlen; done) | (exact hlen2; done) | (with_reducible exact hlj) | (exact hjn; done) | (with_reducible exact q0) | (with_reducible exact q1) | (with_reducible exact q2) | (with_reducible exact q3) | (with_reducible exact q4) | (with_reducible exact q5) | (with_reducible exact q6) | (exact Nat.le_of_ble_eq_true rfl; done))
          · refine Round.go (fun _ => j + 1 + 1) hjl (by show (keyL t kk).length - (j + 1 + 1) < (keyL t kk).length - (j + 1); omega) (Go.Dl.Weak.list [(0, some 0), (1, some 1)] [] (by kernel_rfl) ?_ ?_)
            iterate 2 · repeat' (first | exact wsucc hjl (by omega) | exact hsum | exact DW.same _ rfl | exact DW.ref _ _ _ rfl | exact DW.arr _ _ _ rfl | exact OW.cells rfl rfl (DWl.same rfl) | refine OW.cells rfl rfl ?_ | refine DWl.cons ?_ ?_ | exact DWl.nil | exact DW.nilArr _ rfl | exact DW.nilLst _ | refine DW.clol ?_ ?_ | refine DW.aggl ?_ | refine DW.tupl ?_ | refine DW.int ?_ | refine DW.bool ?_ | refine DW.str ?_ | refine DW.arrE rfl ?_ | ((conv => whnf); first | refine And.intro ?_ ?_ | trivial))
          · exact hx3 h
          · refine Round.go (fun _ => j + 1 + 1) hjl (by show (keyL t kk).length - (j + 1 + 1) < (keyL t kk).length - (j + 1); omega) (Go.Dl.Weak.list [(0, some 0), (1, some 1)] [] (by kernel_rfl) ?_ ?_)
            iterate 2 · repeat' (first | exact wsucc hjl (by omega) | exact hsum | exact DW.same _ rfl | exact DW.ref _ _ _ rfl | exact DW.arr _ _ _ rfl | exact OW.cells rfl rfl (DWl.same rfl) | refine OW.cells rfl rfl ?_ | refine DWl.cons ?_ ?_ | exact DWl.nil | exact DW.nilArr _ rfl | exact DW.nilLst _ | refine DW.clol ?_ ?_ | refine DW.aggl ?_ | refine DW.tupl ?_ | refine DW.int ?_ | refine DW.bool ?_ | refine DW.str ?_ | refine DW.arrE rfl ?_ | ((conv => whnf); first | refine And.intro ?_ ?_ | trivial))
      · have hje : j = (keyL t kk).length := by omega
        have hto : toI t kk j = t.rows.length := by rw [hje]; exact toI_all t kk
        have hex : (((toI t kk j : Nat) : Int) == (((t.rows.map rowD).length : Nat) : Int)) = true := by rw [hto, List.length_map]; exact beq_iff_eq.2 rfl
        by_cases hok : ∀ k ∈ ks, KeyOk (t.head.map strD).length k
        · have g1 := sort_ok ht ks hk hr hok
          have hts := sort_fit ht ks
          have g2 := sort_ok hts ks hk hr (by rw [sort_head]; exact hok)
          rw [sort_idem] at g2
          have g3 : DPure Tryz.prog 23 [tab (sortL t ks), int1 ((kk : Nat) : Int)] (.tup [tab (groupT t kk), int1 0]) := by rw [← group_sort t ks kk]; exact group23_D (sortL t ks) hts.tbl kk kk (by rw [sort_head]; exact hkk2) rfl
          have g4 := same16_D (sortL t ks) (sml_fit hts)
          have g5 := same16_D (groupT t kk) (sml_group ht hkk2)
          have hey : ((((sortL t ks).rows.map rowD).length : Nat) : Int) == (((t.rows.map rowD).length : Nat) : Int) := by rw [List.length_map, List.length_map, sort_len]; exact beq_iff_eq.2 rfl
          repeat' (first | with_reducible rfl | ((conv => whnf); first | refine And.intro ?_ ?_ | (intro h; first | with_reducible exact tf_no h | with_reducible exact ft_no h | exact Bool.noConfusion h | with_reducible exact h | (exfalso; exact hjl (lt_int h)) | (exfalso; simp at h; done) | (have ht : true = true := h; clear ht h) | skip) | ((with_reducible refine SCall.mark ?_); first | refine SCall.data (g1) rfl rfl ?_ | refine SCall.scal (g1) rfl rfl ?_ | refine SCall.data (g2) rfl rfl ?_ | refine SCall.scal (g2) rfl rfl ?_ | refine SCall.data (g3) rfl rfl ?_ | refine SCall.scal (g3) rfl rfl ?_ | refine SCall.data (g4) rfl rfl ?_ | refine SCall.scal (g4) rfl rfl ?_ | refine SCall.data (g5) rfl rfl ?_ | refine SCall.scal (g5) rfl rfl ?_ | refine SCall.data (awake10_D) rfl rfl ?_ | refine SCall.scal (awake10_D) rfl rfl ?_) | ((with_reducible refine PCall.mark ?_); first | refine PCall.mk (g1) rfl rfl ?_ | refine PCall.mk (g2) rfl rfl ?_ | refine PCall.mk (g3) rfl rfl ?_ | refine PCall.mk (g4) rfl rfl ?_ | refine PCall.mk (g5) rfl rfl ?_ | refine PCall.mk (awake10_D) rfl rfl ?_) | ((with_reducible refine GCall.mark ?_); first | refine GCall.data (fun _ => g1) rfl rfl ?_ | refine GCall.scal (fun _ => g1) rfl rfl ?_ | refine GCall.data (fun _ => g2) rfl rfl ?_ | refine GCall.scal (fun _ => g2) rfl rfl ?_ | refine GCall.data (fun _ => g3) rfl rfl ?_ | refine GCall.scal (fun _ => g3) rfl rfl ?_ | refine GCall.data (fun _ => g4) rfl rfl ?_ | refine GCall.scal (fun _ => g4) rfl rfl ?_ | refine GCall.data (fun _ => g5) rfl rfl ?_ | refine GCall.scal (fun _ => g5) rfl rfl ?_ | refine GCall.data (fun _ => awake10_D) rfl rfl ?_ | refine GCall.scal (fun _ => awake10_D) rfl rfl ?_) | ((with_reducible refine MCall.mark ?_); first | refine MCall.data (fun _ => g1) rfl rfl ?_ | refine MCall.plain (PCall.mk (g1) rfl rfl ?_) | refine MCall.data (fun _ => g2) rfl rfl ?_ | refine MCall.plain (PCall.mk (g2) rfl rfl ?_) | refine MCall.data (fun _ => g3) rfl rfl ?_ | refine MCall.plain (PCall.mk (g3) rfl rfl ?_) | refine MCall.data (fun _ => g4) rfl rfl ?_ | refine MCall.plain (PCall.mk (g4) rfl rfl ?_) | refine MCall.data (fun _ => g5) rfl rfl ?_ | refine MCall.plain (PCall.mk (g5) rfl rfl ?_) | refine MCall.data (fun _ => awake10_D) rfl rfl ?_ | refine MCall.plain (PCall.mk (awake10_D) rfl rfl ?_)) | ((with_reducible refine ECall.mark ?_); first | refine ECall.only ?_ (fun h => nomatch h) | refine ECall.only ?_ ?_) | ((with_reducible refine Drawn.mark ?_); first | refine Drawn.quiet (by kernel_rfl) ?_) | refine dcell_ok rfl ?_ | refine AppC.new ?_))
          all_goals try (first | rfl | (with_reducible exact tnb h) | (exact Nat.le_of_ble_eq_true rfl; done))
          all_goals try first | ((with_reducible show Option.isSome (slElem _ _) = true); kernel_rfl) | ((with_reducible show slElem _ _ = some _); kernel_rfl) | ((with_reducible refine enters_mark ?_); kernel_rfl) | (with_reducible assumption) | ((with_reducible show List.all _ DV.one = true); rfl) | ((with_reducible show (_ : Nat) = _); rfl) | ((with_reducible show (_ == true) = true); simpa using h) | ((with_reducible show (_ : Nat) ≤ _); exact Nat.le_of_ble_eq_true rfl) | ((with_reducible show (_ : Int) ≤ _); first | omega | decide) | ((with_reducible show (_ : Int) < _); first | omega | decide) | ((with_reducible show (_ : Nat) < _); omega) | ((with_reducible show (_ : Nat) ≤ _); omega)
          conv => whnf
          exact Tells.mk (DW.bool (fin_ok hey hex))
        · have g1 := sort_no ht ks hk hr hok
          repeat' (first | with_reducible rfl | ((conv => whnf); first | refine And.intro ?_ ?_ | (intro h; first | with_reducible exact tf_no h | with_reducible exact ft_no h | exact Bool.noConfusion h | with_reducible exact h | (exfalso; exact hjl (lt_int h)) | (exfalso; simp at h; done) | (have ht : true = true := h; clear ht h) | skip) | ((with_reducible refine SCall.mark ?_); first | refine SCall.data (g1) rfl rfl ?_ | refine SCall.scal (g1) rfl rfl ?_ | refine SCall.data (awake10_D) rfl rfl ?_ | refine SCall.scal (awake10_D) rfl rfl ?_) | ((with_reducible refine PCall.mark ?_); first | refine PCall.mk (g1) rfl rfl ?_ | refine PCall.mk (awake10_D) rfl rfl ?_) | ((with_reducible refine GCall.mark ?_); first | refine GCall.data (fun _ => g1) rfl rfl ?_ | refine GCall.scal (fun _ => g1) rfl rfl ?_ | refine GCall.data (fun _ => awake10_D) rfl rfl ?_ | refine GCall.scal (fun _ => awake10_D) rfl rfl ?_) | ((with_reducible refine MCall.mark ?_); first | refine MCall.data (fun _ => g1) rfl rfl ?_ | refine MCall.plain (PCall.mk (g1) rfl rfl ?_) | refine MCall.data (fun _ => awake10_D) rfl rfl ?_ | refine MCall.plain (PCall.mk (awake10_D) rfl rfl ?_)) | ((with_reducible refine ECall.mark ?_); first | refine ECall.only ?_ (fun h => nomatch h) | refine ECall.only ?_ ?_) | ((with_reducible refine Drawn.mark ?_); first | refine Drawn.quiet (by kernel_rfl) ?_) | refine dcell_ok rfl ?_ | refine AppC.new ?_))
          all_goals try (first | rfl | (with_reducible exact tnb h) | (exact Nat.le_of_ble_eq_true rfl; done))
          all_goals try first | ((with_reducible show Option.isSome (slElem _ _) = true); kernel_rfl) | ((with_reducible show slElem _ _ = some _); kernel_rfl) | ((with_reducible refine enters_mark ?_); kernel_rfl) | (with_reducible assumption) | ((with_reducible show List.all _ DV.one = true); rfl) | ((with_reducible show (_ : Nat) = _); rfl) | ((with_reducible show (_ == true) = true); simpa using h) | ((with_reducible show (_ : Nat) ≤ _); exact Nat.le_of_ble_eq_true rfl) | ((with_reducible show (_ : Int) ≤ _); first | omega | decide) | ((with_reducible show (_ : Int) < _); first | omega | decide) | ((with_reducible show (_ : Nat) < _); omega) | ((with_reducible show (_ : Nat) ≤ _); omega)
          conv => whnf
          exact Tells.mk (DW.bool (congrArg (fun x : Bool => bif x then true else false) hex))
end Go.Proofs.YtlchjjchgebfiaaGreatDoor


