/- The two sorts are one. -/
import Derived.Test.YtlchjjchgebfiaaGreatDoorPkM
import Derived.Test.YtlchjjchgebfiaaGreatDoorPkH
import Derived.Test.YtlchjjchgebfiaaGreatDoorDp37
import Derived.MapKept

namespace Go.Proofs.YtlchjjchgebfiaaGreatDoor
open Go.Dl Go.Dl.Stb
def ltO (k : Int) (a b : List ByteArray) : Bool := if k < 0 then lessB (b.getD (atK k).toNat emB) (a.getD (atK k).toNat emB) else lessB (a.getD (atK k).toNat emB) (b.getD (atK k).toNat emB)
theorem lt_iff {x y : ByteArray} : cmpT x y < 0 ↔ lessB x y = true := by rw [← cmp_less, decide_eq_true_eq]
theorem gt_iff {x y : ByteArray} : 0 < cmpT x y ↔ lessB y x = true := by
  refine ⟨fun h => ?_, gt_is⟩
  cases h1 : lessB y x with
  | true => rfl
  | false =>
    exfalso
    cases h2 : lessB x y with
    | true => have := lt_iff.2 h2; omega
    | false => have := cmp_zero.2 ⟨h2, h1⟩; omega
theorem one_lt {k : Int} {a b : List ByteArray} : oneK k a b < 0 ↔ ltO k a b = true := by
  unfold oneK ltO sgnK
  split
  · rw [← gt_iff]; omega
  · rw [← lt_iff]; omega
theorem one_gt {k : Int} {a b : List ByteArray} : 0 < oneK k a b ↔ ltO k b a = true := by
  unfold oneK ltO sgnK
  split
  · rw [← lt_iff]; omega
  · rw [← gt_iff]; omega
theorem ltO_asym {k : Int} {a b : List ByteArray} (h : ltO k a b = true) : ltO k b a = false := by
  unfold ltO at *
  split at h
  · rw [if_pos (by assumption)]; exact less_asym h
  · rw [if_neg (by assumption)]; exact less_asym h
theorem ltO_neg {k : Int} {a b c : List ByteArray} (h : ltO k a b = false) (h2 : ltO k b c = false) : ltO k a c = false := by
  unfold ltO at *
  by_cases hk : k < 0
  · rw [if_pos hk] at *; exact less_neg h2 h
  · rw [if_neg hk] at *; exact less_neg h h2
def ltR (ks : List Int) (a b : List ByteArray) : Bool := decide (cmpK ks a b < 0)
theorem ltR_cons (k : Int) (ks : List Int) (a b : List ByteArray) : ltR (k :: ks) a b = (ltO k a b || (!ltO k b a && ltR ks a b)) := by
  unfold ltR
  show decide ((bif oneK k a b != 0 then oneK k a b else cmpK ks a b) < 0) = _
  cases h1 : ltO k a b with
  | true =>
    have h := one_lt.2 h1
    rw [show (oneK k a b != 0) = true from bne_iff_ne.2 (by omega)]
    exact decide_eq_true h
  | false =>
    have n1 : ¬ oneK k a b < 0 := fun h => by rw [one_lt.1 h] at h1; cases h1
    cases h2 : ltO k b a with
    | true =>
      have h := one_gt.2 h2
      rw [show (oneK k a b != 0) = true from bne_iff_ne.2 (by omega)]
      exact decide_eq_false n1
    | false =>
      have n2 : ¬ 0 < oneK k a b := fun h => by rw [one_gt.1 h] at h2; cases h2
      rw [show oneK k a b = 0 by omega]; rfl
theorem ltR_asym : ∀ (ks : List Int) {a b : List ByteArray}, ltR ks a b = true → ltR ks b a = false
  | [], a, b, h => by cases h
  | k :: ks, a, b, h => by
    rw [ltR_cons] at h ⊢
    cases h1 : ltO k a b with
    | true => rw [ltO_asym h1]; rfl
    | false =>
      rw [h1] at h
      cases h2 : ltO k b a with
      | true => rw [h2] at h; cases h
      | false =>
        rw [h2] at h
        exact ltR_asym ks h
theorem ltR_neg : ∀ (ks : List Int) {a b c : List ByteArray}, ltR ks a b = false → ltR ks b c = false → ltR ks a c = false
  | [], a, b, c, _, _ => rfl
  | k :: ks, a, b, c, h1, h2 => by
    rw [ltR_cons] at h1 h2 ⊢
    rw [Bool.or_eq_false_iff] at h1 h2 ⊢
    obtain ⟨h1, g1⟩ := h1
    obtain ⟨h2, g2⟩ := h2
    have h3 := ltO_neg h1 h2
    refine ⟨h3, ?_⟩
    cases h4 : ltO k c a with
    | true => rfl
    | false =>
      have h5 : ltO k b a = false := by
        cases h : ltO k b a with
        | false => rfl
        | true => rw [ltO_neg h2 h4] at h; cases h
      have h6 : ltO k c b = false := by
        cases h : ltO k c b with
        | false => rfl
        | true => rw [ltO_neg h4 h1] at h; cases h
      rw [h5] at g1
      rw [h6] at g2
      exact ltR_neg ks g1 g2
theorem weakK (ks : List Int) (rows : List (List ByteArray)) : Stb.Weak (ltK ks rows) := ⟨fun _ _ h => ltR_asym ks h, fun _ _ _ h1 h2 => ltR_neg ks h1 h2⟩
theorem sort_eq (t : Tb) (ks : List Int) : sortG t ks = sortL t ks := by
  unfold sortG sortL
  have hw := weakK ks t.rows
  have h1 := stab_ord hw t.rows.length
  have h2 := insF_ord hw (a := 0) (b := t.rows.length) (fun i => i) (fun x y _ h _ => h)
  have h3 := ord_unique hw h2.2 h1.2 h2.1 h1.1
  congr 1
  refine List.map_congr_left fun j hj => ?_
  rw [h3 j (List.mem_range.1 hj)]
end Go.Proofs.YtlchjjchgebfiaaGreatDoor

namespace Go.Proofs.YtlchjjchgebfiaaGreatDoor
open Go.RowKit Go.Dl Go.Dl.Stb
attribute [local irreducible] Tri SCall TSem ECall Drawn DFun QSem PSem PCall GCall MCall Round Go.Dl.Weak dloadE OW DWl Tells IntKind.wrap Retold ESem
def pgs (n s : Nat) : Nat := if 0 < n % s ∨ n = 0 then n / s + 1 else n / s
def pgLo (s a : Nat) : Nat := a * s
def pgHi (n s a : Nat) : Nat := min n (a * s + s)
def pgV (t : Tb) (size at_ : Int) : Tb × Int × Int :=
  if size < 1 then (⟨[], []⟩, 0, 31) else
  if at_ < 0 ∨ (pgs t.rows.length size.toNat : Int) ≤ at_ then (⟨[], []⟩, pgs t.rows.length size.toNat, 44) else
  (⟨t.head, (t.rows.take (pgHi t.rows.length size.toNat at_.toNat)).drop (pgLo size.toNat at_.toNat)⟩, pgs t.rows.length size.toNat, 0)
def pgR (r : Tb × Int × Int) : DV := .tup [tab r.1, int1 r.2.1, int1 r.2.2]
theorem pg_q {n s : Nat} (hn : n ≤ 4096) : IntKind.i64.wrap (Int.tdiv (n : Int) (s : Int)) = ((n / s : Nat) : Int) := by
  rw [Int.tdiv_eq_ediv_of_nonneg (Int.natCast_nonneg _), ← Int.natCast_ediv]
  have : n / s ≤ n := Nat.div_le_self _ _
  generalize n / s = q at *
  exact wrapI (by omega) (by omega)
theorem pg_q1 {n s : Nat} (hn : n ≤ 4096) : IntKind.i64.wrap (IntKind.i64.wrap (Int.tdiv (n : Int) (s : Int)) + 1) = ((n / s + 1 : Nat) : Int) := by
  rw [pg_q hn]
  have : n / s ≤ n := Nat.div_le_self _ _
  generalize n / s = q at *
  rw [wrapI (by omega) (by omega)]; omega
theorem pg_r {n s : Nat} : Int.tmod (n : Int) (s : Int) = ((n % s : Nat) : Int) := by
  rw [Int.tmod_eq_emod_of_nonneg (Int.natCast_nonneg _), ← Int.natCast_emod]
theorem pg_t {n s : Nat} (h : 0 < n % s ∨ n = 0) : (bif decide ((0 : Int) < ((n % s : Nat) : Int)) then true else ((n : Nat) : Int) == 0) = true := by
  rcases h with h | h
  · rw [decide_eq_true (by omega)]; rfl
  · subst h; cases decide ((0 : Int) < ((0 % s : Nat) : Int)) <;> rfl
theorem pg_f {n s : Nat} (h : ¬ (0 < n % s ∨ n = 0)) : (bif decide ((0 : Int) < ((n % s : Nat) : Int)) then true else ((n : Nat) : Int) == 0) = false := by
  rw [decide_eq_false (by omega), show (((n : Nat) : Int) == 0) = false from beq_eq_false_iff_ne.2 (by omega)]; rfl
theorem pg_bad {p x : Int} (h : x < 0 ∨ p ≤ x) : (bif decide (x < 0) then true else decide (p ≤ x)) = true := by
  rcases h with h | h
  · rw [decide_eq_true h]; rfl
  · rw [decide_eq_true h]; cases decide (x < 0) <;> rfl
theorem pg_good {p x : Int} (h : ¬ (x < 0 ∨ p ≤ x)) : (bif decide (x < 0) then true else decide (p ≤ x)) = false := by
  rw [decide_eq_false (fun c => h (.inl c)), decide_eq_false (fun c => h (.inr c))]; rfl
theorem pg_le {N s a : Nat} (_hs1 : 1 ≤ s) (ha : a < pgs N s) : a * s ≤ N ∧ (N < s → a = 0) := by
  unfold pgs at ha
  have h2 := Nat.div_add_mod N s
  have h3 := Nat.div_mul_le_self N s
  split at ha
  · have h1 : a * s ≤ N / s * s := Nat.mul_le_mul_right s (by omega)
    refine ⟨by omega, fun h => ?_⟩
    rw [Nat.div_eq_of_lt h] at ha; omega
  · have h1 : a * s ≤ N / s * s := Nat.mul_le_mul_right s (by omega)
    refine ⟨by omega, fun h => ?_⟩
    rw [Nat.div_eq_of_lt h] at ha; omega
theorem pg_e1 {N s a : Nat} (hN : N ≤ 4096) (hs1 : 1 ≤ s) (ha : a < pgs N s) : IntKind.i64.wrap ((a : Int) * (if (N : Int) < (s : Int) then (N : Int) else (s : Int))) = ((pgLo s a : Nat) : Int) := by
  obtain ⟨h1, h2⟩ := pg_le hs1 ha
  unfold pgLo
  by_cases h : N < s
  · rw [if_pos (by omega), h2 h, Nat.zero_mul]; simp [IntKind.wrap_i64]
  · rw [if_neg (by omega), ← Int.natCast_mul]
    generalize a * s = L at *
    exact wrapI (by omega) (by omega)
theorem pg_e2 {N s a : Nat} {lo : Int} (hN : N ≤ 4096) (hs1 : 1 ≤ s) (ha : a < pgs N s) (e : lo = ((pgLo s a : Nat) : Int)) : (if IntKind.i64.wrap (lo + (if (N : Int) < (s : Int) then (N : Int) else (s : Int))) < (N : Int) then IntKind.i64.wrap (lo + (if (N : Int) < (s : Int) then (N : Int) else (s : Int))) else (N : Int)) = ((pgHi N s a : Nat) : Int) := by
  obtain ⟨h1, h2⟩ := pg_le hs1 ha
  subst e
  unfold pgHi pgLo
  by_cases h : N < s
  · rw [if_pos (show (N : Int) < (s : Int) by omega), h2 h, Nat.zero_mul, wrapI (by omega) (by omega), if_neg (by omega)]; omega
  · rw [if_neg (show ¬ (N : Int) < (s : Int) by omega)]
    generalize a * s = L at *
    rw [wrapI (by omega) (by omega)]
    split <;> omega
theorem pg_lh {N s a : Nat} (hs1 : 1 ≤ s) (ha : a < pgs N s) : pgLo s a ≤ pgHi N s a ∧ pgHi N s a ≤ N := by
  obtain ⟨h1, h2⟩ := pg_le hs1 ha
  unfold pgLo pgHi; omega
theorem pg_mem {l : List (List ByteArray)} {a b : Nat} {r : List ByteArray} (h : r ∈ (l.take a).drop b) : r ∈ l := List.mem_of_mem_take (List.mem_of_mem_drop h)
theorem pg_list {l : List (List ByteArray)} {x y : Int} {a b : Nat} (h1 : x = ((a : Nat) : Int)) (h2 : y = ((b : Nat) : Int)) : ((l.map rowD).take x.toNat).drop y.toNat = ((l.take a).drop b).map rowD := by
  rw [h1, h2, Int.toNat_natCast, Int.toNat_natCast, ← List.map_take, ← List.map_drop]
theorem bt_x {b c : Bool} (h : b = c) (k : b = !c) : False := by subst h; cases b <;> cases k
set_option maxRecDepth 20000 in
set_option maxHeartbeats 4000000 in
theorem page22_D (t : Tb) (hh1 : 1 ≤ t.head.length) (hh2 : t.head.length ≤ 4096) (hrw : t.rows.length ≤ 4096 ∧ ∀ r ∈ t.rows, 1 ≤ r.length ∧ r.length ≤ 4096) (size at_ : Int) (hs : KIn size) (ha : KIn at_) : DPure Tryz.prog 22 [tab t, int1 size, int1 at_] (pgR (pgV t size at_)) := by
  by_cases h1 : size < 1
  · rw [show pgV t size at_ = ((⟨[], []⟩, 0, 31) : Tb × Int × Int) by unfold pgV; rw [if_pos h1]]
    refine DFun.data (DFun.body Tryz.func22 rfl (by kernel_rfl) ?_)
    repeat' (first | with_reducible rfl | ((conv => whnf); first | refine And.intro ?_ ?_ | (intro h; first | with_reducible exact tf_no h | with_reducible exact ft_no h | exact Bool.noConfusion h | with_reducible exact h | (exfalso; exact dn_t h1 h) | (have ht : true = true := h; clear ht h) | skip) | ((with_reducible refine ECall.mark ?_); first | refine ECall.only ?_ (fun h => nomatch h) | refine ECall.only ?_ ?_) | ((with_reducible refine Drawn.mark ?_); first | refine Drawn.quiet (by kernel_rfl) ?_) | refine dcell_ok rfl ?_ | refine AppC.new ?_))
    all_goals try first | ((with_reducible show Option.isSome (slElem _ _) = true); kernel_rfl) | ((with_reducible show slElem _ _ = some _); kernel_rfl) | ((with_reducible refine enters_mark ?_); kernel_rfl) | (with_reducible assumption) | ((with_reducible show List.all _ DV.one = true); rfl) | ((with_reducible show (_ : Nat) = _); rfl) | ((with_reducible show (_ == true) = true); simpa using h) | ((with_reducible show (_ : Nat) ≤ _); exact Nat.le_of_ble_eq_true rfl) | ((with_reducible show (_ : Int) ≤ _); first | omega | decide) | ((with_reducible show (_ : Int) < _); first | omega | decide) | ((with_reducible show (_ : Nat) < _); omega) | ((with_reducible show (_ : Nat) ≤ _); omega)
    conv => whnf
    exact Tells.mk (DW.tupl (DWl.cons (DW.aggl (DWl.cons (DW.nilLst _) (DWl.cons (DW.nilLst _) DWl.nil))) (DWl.cons (DW.same _ rfl) (DWl.cons (DW.same _ rfl) DWl.nil))))
  · obtain ⟨s, hs2⟩ : ∃ s : Nat, size = s := ⟨size.toNat, by omega⟩
    subst hs2
    have hs1 : 1 ≤ s := by omega
    have hlen : (t.rows.map rowD).length = t.rows.length := List.length_map _
    have hN : (t.rows.map rowD).length ≤ 4096 := by rw [hlen]; exact hrw.1
    have hs0 : ((s : Nat) : Int) ≠ 0 := by omega
    by_cases hx : 0 < (t.rows.map rowD).length % s ∨ (t.rows.map rowD).length = 0
    · have t1 : (bif decide ((0 : Int) < Int.tmod (((t.rows.map rowD).length : Nat) : Int) (s : Int)) then true else (((t.rows.map rowD).length : Nat) : Int) == 0) = true := by rw [pg_r]; exact pg_t hx
      have hp : pgs t.rows.length s = (t.rows.map rowD).length / s + 1 := by rw [← hlen]; unfold pgs; rw [if_pos hx]
      by_cases hb : at_ < 0 ∨ (((t.rows.map rowD).length / s + 1 : Nat) : Int) ≤ at_
      · have t2 : (bif decide (at_ < 0) then true else decide (IntKind.i64.wrap (IntKind.i64.wrap (Int.tdiv (((t.rows.map rowD).length : Nat) : Int) (s : Int)) + 1) ≤ at_)) = true := by rw [pg_q1 hN]; exact pg_bad hb
        rw [show pgV t s at_ = ((⟨[], []⟩, (((t.rows.map rowD).length / s + 1 : Nat) : Int), 44) : Tb × Int × Int) by unfold pgV; rw [if_neg h1, Int.toNat_natCast, hp, if_pos hb]]
        refine DFun.data (DFun.body Tryz.func22 rfl (by kernel_rfl) ?_)
        repeat' (first | with_reducible rfl | ((conv => whnf); first | refine And.intro ?_ ?_ | (intro h; first | with_reducible exact tf_no h | with_reducible exact ft_no h | exact Bool.noConfusion h | with_reducible exact h | (exfalso; exact dn_f h1 h) | (exfalso; exact bt_x t1 h) | (exfalso; exact bt_x t2 h) | (have ht : true = true := h; clear ht h) | skip) | ((with_reducible refine ECall.mark ?_); first | refine ECall.only ?_ (fun h => nomatch h) | refine ECall.only ?_ ?_) | ((with_reducible refine Drawn.mark ?_); first | refine Drawn.quiet (by kernel_rfl) ?_) | refine dcell_ok rfl ?_ | refine AppC.new ?_))
        all_goals try first | ((with_reducible show Option.isSome (slElem _ _) = true); kernel_rfl) | ((with_reducible show slElem _ _ = some _); kernel_rfl) | ((with_reducible refine enters_mark ?_); kernel_rfl) | (with_reducible assumption) | ((with_reducible show List.all _ DV.one = true); rfl) | ((with_reducible show (_ : Nat) = _); rfl) | ((with_reducible show (_ == true) = true); simpa using h) | ((with_reducible show (_ : Nat) ≤ _); exact Nat.le_of_ble_eq_true rfl) | ((with_reducible show (_ : Int) ≤ _); first | omega | decide) | ((with_reducible show (_ : Int) < _); first | omega | decide) | ((with_reducible show (_ : Nat) < _); omega) | ((with_reducible show (_ : Nat) ≤ _); omega)
        all_goals try (first | ((with_reducible show False); exact hs0 h) | (with_reducible exact tnb h))
        conv => whnf
        exact Tells.mk (DW.tupl (DWl.cons (DW.aggl (DWl.cons (DW.nilLst _) (DWl.cons (DW.nilLst _) DWl.nil))) (DWl.cons (DW.int (pg_q1 hN)) (DWl.cons (DW.same _ rfl) DWl.nil))))
      · have t2 : (bif decide (at_ < 0) then true else decide (IntKind.i64.wrap (IntKind.i64.wrap (Int.tdiv (((t.rows.map rowD).length : Nat) : Int) (s : Int)) + 1) ≤ at_)) = false := by rw [pg_q1 hN]; exact pg_good hb
        obtain ⟨a, ha2⟩ : ∃ a : Nat, at_ = a := ⟨at_.toNat, by omega⟩
        subst ha2
        rw [show pgV t s a = ((⟨t.head, (t.rows.take (pgHi t.rows.length s a)).drop (pgLo s a)⟩, (((t.rows.map rowD).length / s + 1 : Nat) : Int), 0) : Tb × Int × Int) by unfold pgV; rw [if_neg h1, Int.toNat_natCast, hp, if_neg hb, Int.toNat_natCast]]
        have hap : a < pgs (t.rows.map rowD).length s := by rw [hlen, hp]; omega
        have e1 := pg_e1 hN hs1 hap
        have e2 := (pg_e2 hN hs1 hap e1).trans (congrArg (fun n => ((pgHi n s a : Nat) : Int)) hlen)
        have e3 := pg_lh hs1 hap
        rw [hlen] at e3
        have na : (decide ((a : Int) < 0) == false) = true := by rw [decide_eq_false (by omega)]; rfl
        generalize hL : (t.rows.take (pgHi t.rows.length s a)).drop (pgLo s a) = L
        have el := fun (x y : Int) (h1 : x = _) (h2 : y = _) => (pg_list (l := t.rows) (x := x) (y := y) (a := pgHi t.rows.length s a) (b := pgLo s a) h1 h2).trans (congrArg (List.map rowD) hL)
        have hw := rows57_S L (by rw [← hL, List.length_drop, List.length_take]; omega) (fun r hr => hrw.2 r (pg_mem (hL ▸ hr)))
        refine DFun.data (DFun.body Tryz.func22 rfl (by kernel_rfl) ?_)
        repeat' (first | with_reducible rfl | ((conv => whnf); first | refine And.intro ?_ ?_ | (intro h; first | with_reducible exact tf_no h | with_reducible exact ft_no h | exact Bool.noConfusion h | with_reducible exact h | (exfalso; exact dn_f h1 h) | (exfalso; exact bt_x t1 h) | (exfalso; exact bt_x t2 h) | (have ht : true = true := h; clear ht h) | skip) | ((with_reducible refine SCall.mark ?_); first | refine SCall.data (clone56_D t.head hh1 hh2) rfl rfl ?_ | refine SCall.scal (clone56_D t.head hh1 hh2) rfl rfl ?_ | refine SCall.at [] (fun m => [(m, ⟨22, 1, rowsC L⟩)]) (fun m => .arr m L.length) 1 hw (by kernel_rfl) trivial (DWl.cons (DW.lstE (el _ _ e2 e1)) DWl.nil) (DW.arr _ _ _ rfl) ⟨OW.cells rfl rfl (DWl.eq rfl (rowsC_all _)), trivial⟩ ?_) | ((with_reducible refine PCall.mark ?_); first | refine PCall.mk (clone56_D t.head hh1 hh2) rfl rfl ?_) | ((with_reducible refine GCall.mark ?_); first | refine GCall.data (fun _ => clone56_D t.head hh1 hh2) rfl rfl ?_ | refine GCall.scal (fun _ => clone56_D t.head hh1 hh2) rfl rfl ?_) | ((with_reducible refine MCall.mark ?_); first | refine MCall.data (fun _ => clone56_D t.head hh1 hh2) rfl rfl ?_ | refine MCall.plain (PCall.mk (clone56_D t.head hh1 hh2) rfl rfl ?_)) | ((with_reducible refine Tri.mark ?_); first | (refine Tri.treeX [1, 2] (MX.mv 0 0 (MX.mv 0 1 (MX.mv 0 3 (MX.mv 0 4 (MX.mv 0 5 (MX.mv 0 6 (MX.mv 0 7 (MX.mv 0 8 (MX.mv 0 9 (MX.mv 0 10 (MX.mv 0 11 (MX.mv 0 12 (MX.mv 0 13 (MX.mv 0 16 (MX.mv 2 2 (MX.mv 2 14 (MX.mv 1 15 (MX.mv 1 17 (MX.mv 1 18 (MX.mv 1 19 MX.done)))))))))))))))))))) ?_ (by kernel_rfl) ?_; rfl)) | ((with_reducible refine ECall.mark ?_); first | refine ECall.only ?_ (fun h => nomatch h) | refine ECall.only ?_ ?_) | ((with_reducible refine Drawn.mark ?_); first | (refine Drawn.tree ?_; refine Tri.treeX [1, 2] (MX.mv 0 0 (MX.mv 0 1 (MX.mv 0 3 (MX.mv 0 4 (MX.mv 0 5 (MX.mv 0 6 (MX.mv 0 7 (MX.mv 0 8 (MX.mv 0 9 (MX.mv 0 10 (MX.mv 0 11 (MX.mv 0 12 (MX.mv 0 13 (MX.mv 0 16 (MX.mv 2 2 (MX.mv 2 14 (MX.mv 1 15 (MX.mv 1 17 (MX.mv 1 18 (MX.mv 1 19 MX.done)))))))))))))))))))) ?_ (by kernel_rfl) ?_; rfl) | refine Drawn.quiet (by kernel_rfl) ?_) | refine dcell_ok rfl ?_ | refine AppC.new ?_))
        all_goals try first | ((with_reducible show Option.isSome (slElem _ _) = true); kernel_rfl) | ((with_reducible show slElem _ _ = some _); kernel_rfl) | ((with_reducible refine enters_mark ?_); kernel_rfl) | (with_reducible assumption) | ((with_reducible show List.all _ DV.one = true); rfl) | ((with_reducible show (_ : Nat) = _); rfl) | ((with_reducible show (_ == true) = true); simpa using h) | ((with_reducible show (_ : Nat) ≤ _); exact Nat.le_of_ble_eq_true rfl) | ((with_reducible show (_ : Int) ≤ _); first | omega | decide) | ((with_reducible show (_ : Int) < _); first | omega | decide) | ((with_reducible show (_ : Nat) < _); omega) | ((with_reducible show (_ : Nat) ≤ _); omega)
        all_goals try (first | ((with_reducible show False); exact hs0 h) | (with_reducible exact tnb h) | ((with_reducible show (0 : Int) ≤ _); rw [e1]; exact Int.natCast_nonneg _) | (with_reducible exact na) | ((with_reducible show (_ : Int) ≤ (_ : Int)); rw [e2]; first | (rw [e1]; exact Int.ofNat_le.2 e3.1) | (rw [hlen]; exact Int.ofNat_le.2 e3.2)))
        repeat' (first | with_reducible rfl | ((conv => whnf); first | refine And.intro ?_ ?_ | (intro h; first | with_reducible exact tf_no h | with_reducible exact ft_no h | exact Bool.noConfusion h | with_reducible exact h | (have ht : true = true := h; clear ht h) | skip) | ((with_reducible refine ECall.mark ?_); first | refine ECall.only ?_ (fun h => nomatch h) | refine ECall.only ?_ ?_) | ((with_reducible refine Drawn.mark ?_); first | refine Drawn.quiet (by kernel_rfl) ?_) | refine dcell_ok rfl ?_ | refine AppC.new ?_))
        all_goals try (first | ((with_reducible show _ ≤ _); exact Nat.le_refl _) | ((with_reducible show Option.all _ _ = true); rfl))
        all_goals try first | ((with_reducible show Option.isSome (slElem _ _) = true); kernel_rfl) | ((with_reducible show slElem _ _ = some _); kernel_rfl) | ((with_reducible refine enters_mark ?_); kernel_rfl) | (with_reducible assumption) | ((with_reducible show List.all _ DV.one = true); rfl) | ((with_reducible show (_ : Nat) = _); rfl) | ((with_reducible show (_ == true) = true); simpa using h) | ((with_reducible show (_ : Nat) ≤ _); exact Nat.le_of_ble_eq_true rfl) | ((with_reducible show (_ : Int) ≤ _); first | omega | decide) | ((with_reducible show (_ : Int) < _); first | omega | decide) | ((with_reducible show (_ : Nat) < _); omega) | ((with_reducible show (_ : Nat) ≤ _); omega)
        conv => whnf
        exact Tells.mk (DW.tupl (DWl.cons (DW.aggl (DWl.cons (DW.same _ rfl) (DWl.cons (DW.pubM (l := L) (f := rowD) rfl rfl rfl rfl rowRow (rowsC_eq _)) DWl.nil))) (DWl.cons (DW.int (pg_q1 hN)) (DWl.cons (DW.same _ rfl) DWl.nil))))
    · have t1 : (bif decide ((0 : Int) < Int.tmod (((t.rows.map rowD).length : Nat) : Int) (s : Int)) then true else (((t.rows.map rowD).length : Nat) : Int) == 0) = false := by rw [pg_r]; exact pg_f hx
      have hp : pgs t.rows.length s = (t.rows.map rowD).length / s := by rw [← hlen]; unfold pgs; rw [if_neg hx]
      by_cases hb : at_ < 0 ∨ (((t.rows.map rowD).length / s : Nat) : Int) ≤ at_
      · have t2 : (bif decide (at_ < 0) then true else decide (IntKind.i64.wrap (Int.tdiv (((t.rows.map rowD).length : Nat) : Int) (s : Int)) ≤ at_)) = true := by rw [pg_q hN]; exact pg_bad hb
        rw [show pgV t s at_ = ((⟨[], []⟩, (((t.rows.map rowD).length / s : Nat) : Int), 44) : Tb × Int × Int) by unfold pgV; rw [if_neg h1, Int.toNat_natCast, hp, if_pos hb]]
        refine DFun.data (DFun.body Tryz.func22 rfl (by kernel_rfl) ?_)
        repeat' (first | with_reducible rfl | ((conv => whnf); first | refine And.intro ?_ ?_ | (intro h; first | with_reducible exact tf_no h | with_reducible exact ft_no h | exact Bool.noConfusion h | with_reducible exact h | (exfalso; exact dn_f h1 h) | (exfalso; exact bt_x t1 h) | (exfalso; exact bt_x t2 h) | (have ht : true = true := h; clear ht h) | skip) | ((with_reducible refine ECall.mark ?_); first | refine ECall.only ?_ (fun h => nomatch h) | refine ECall.only ?_ ?_) | ((with_reducible refine Drawn.mark ?_); first | refine Drawn.quiet (by kernel_rfl) ?_) | refine dcell_ok rfl ?_ | refine AppC.new ?_))
        all_goals try first | ((with_reducible show Option.isSome (slElem _ _) = true); kernel_rfl) | ((with_reducible show slElem _ _ = some _); kernel_rfl) | ((with_reducible refine enters_mark ?_); kernel_rfl) | (with_reducible assumption) | ((with_reducible show List.all _ DV.one = true); rfl) | ((with_reducible show (_ : Nat) = _); rfl) | ((with_reducible show (_ == true) = true); simpa using h) | ((with_reducible show (_ : Nat) ≤ _); exact Nat.le_of_ble_eq_true rfl) | ((with_reducible show (_ : Int) ≤ _); first | omega | decide) | ((with_reducible show (_ : Int) < _); first | omega | decide) | ((with_reducible show (_ : Nat) < _); omega) | ((with_reducible show (_ : Nat) ≤ _); omega)
        all_goals try (first | ((with_reducible show False); exact hs0 h) | (with_reducible exact tnb h))
        conv => whnf
        exact Tells.mk (DW.tupl (DWl.cons (DW.aggl (DWl.cons (DW.nilLst _) (DWl.cons (DW.nilLst _) DWl.nil))) (DWl.cons (DW.int (pg_q hN)) (DWl.cons (DW.same _ rfl) DWl.nil))))
      · have t2 : (bif decide (at_ < 0) then true else decide (IntKind.i64.wrap (Int.tdiv (((t.rows.map rowD).length : Nat) : Int) (s : Int)) ≤ at_)) = false := by rw [pg_q hN]; exact pg_good hb
        obtain ⟨a, ha2⟩ : ∃ a : Nat, at_ = a := ⟨at_.toNat, by omega⟩
        subst ha2
        rw [show pgV t s a = ((⟨t.head, (t.rows.take (pgHi t.rows.length s a)).drop (pgLo s a)⟩, (((t.rows.map rowD).length / s : Nat) : Int), 0) : Tb × Int × Int) by unfold pgV; rw [if_neg h1, Int.toNat_natCast, hp, if_neg hb, Int.toNat_natCast]]
        have hap : a < pgs (t.rows.map rowD).length s := by rw [hlen, hp]; omega
        have e1 := pg_e1 hN hs1 hap
        have e2 := (pg_e2 hN hs1 hap e1).trans (congrArg (fun n => ((pgHi n s a : Nat) : Int)) hlen)
        have e3 := pg_lh hs1 hap
        rw [hlen] at e3
        have na : (decide ((a : Int) < 0) == false) = true := by rw [decide_eq_false (by omega)]; rfl
        generalize hL : (t.rows.take (pgHi t.rows.length s a)).drop (pgLo s a) = L
        have el := fun (x y : Int) (h1 : x = _) (h2 : y = _) => (pg_list (l := t.rows) (x := x) (y := y) (a := pgHi t.rows.length s a) (b := pgLo s a) h1 h2).trans (congrArg (List.map rowD) hL)
        have hw := rows57_S L (by rw [← hL, List.length_drop, List.length_take]; omega) (fun r hr => hrw.2 r (pg_mem (hL ▸ hr)))
        refine DFun.data (DFun.body Tryz.func22 rfl (by kernel_rfl) ?_)
        repeat' (first | with_reducible rfl | ((conv => whnf); first | refine And.intro ?_ ?_ | (intro h; first | with_reducible exact tf_no h | with_reducible exact ft_no h | exact Bool.noConfusion h | with_reducible exact h | (exfalso; exact dn_f h1 h) | (exfalso; exact bt_x t1 h) | (exfalso; exact bt_x t2 h) | (have ht : true = true := h; clear ht h) | skip) | ((with_reducible refine SCall.mark ?_); first | refine SCall.data (clone56_D t.head hh1 hh2) rfl rfl ?_ | refine SCall.scal (clone56_D t.head hh1 hh2) rfl rfl ?_ | refine SCall.at [] (fun m => [(m, ⟨22, 1, rowsC L⟩)]) (fun m => .arr m L.length) 1 hw (by kernel_rfl) trivial (DWl.cons (DW.lstE (el _ _ e2 e1)) DWl.nil) (DW.arr _ _ _ rfl) ⟨OW.cells rfl rfl (DWl.eq rfl (rowsC_all _)), trivial⟩ ?_) | ((with_reducible refine PCall.mark ?_); first | refine PCall.mk (clone56_D t.head hh1 hh2) rfl rfl ?_) | ((with_reducible refine GCall.mark ?_); first | refine GCall.data (fun _ => clone56_D t.head hh1 hh2) rfl rfl ?_ | refine GCall.scal (fun _ => clone56_D t.head hh1 hh2) rfl rfl ?_) | ((with_reducible refine MCall.mark ?_); first | refine MCall.data (fun _ => clone56_D t.head hh1 hh2) rfl rfl ?_ | refine MCall.plain (PCall.mk (clone56_D t.head hh1 hh2) rfl rfl ?_)) | ((with_reducible refine Tri.mark ?_); first | (refine Tri.treeX [1, 2] (MX.mv 0 0 (MX.mv 0 1 (MX.mv 0 3 (MX.mv 0 4 (MX.mv 0 5 (MX.mv 0 6 (MX.mv 0 7 (MX.mv 0 8 (MX.mv 0 9 (MX.mv 0 10 (MX.mv 0 11 (MX.mv 0 12 (MX.mv 0 13 (MX.mv 0 16 (MX.mv 2 2 (MX.mv 2 14 (MX.mv 1 15 (MX.mv 1 17 (MX.mv 1 18 (MX.mv 1 19 MX.done)))))))))))))))))))) ?_ (by kernel_rfl) ?_; rfl)) | ((with_reducible refine ECall.mark ?_); first | refine ECall.only ?_ (fun h => nomatch h) | refine ECall.only ?_ ?_) | ((with_reducible refine Drawn.mark ?_); first | (refine Drawn.tree ?_; refine Tri.treeX [1, 2] (MX.mv 0 0 (MX.mv 0 1 (MX.mv 0 3 (MX.mv 0 4 (MX.mv 0 5 (MX.mv 0 6 (MX.mv 0 7 (MX.mv 0 8 (MX.mv 0 9 (MX.mv 0 10 (MX.mv 0 11 (MX.mv 0 12 (MX.mv 0 13 (MX.mv 0 16 (MX.mv 2 2 (MX.mv 2 14 (MX.mv 1 15 (MX.mv 1 17 (MX.mv 1 18 (MX.mv 1 19 MX.done)))))))))))))))))))) ?_ (by kernel_rfl) ?_; rfl) | refine Drawn.quiet (by kernel_rfl) ?_) | refine dcell_ok rfl ?_ | refine AppC.new ?_))
        all_goals try first | ((with_reducible show Option.isSome (slElem _ _) = true); kernel_rfl) | ((with_reducible show slElem _ _ = some _); kernel_rfl) | ((with_reducible refine enters_mark ?_); kernel_rfl) | (with_reducible assumption) | ((with_reducible show List.all _ DV.one = true); rfl) | ((with_reducible show (_ : Nat) = _); rfl) | ((with_reducible show (_ == true) = true); simpa using h) | ((with_reducible show (_ : Nat) ≤ _); exact Nat.le_of_ble_eq_true rfl) | ((with_reducible show (_ : Int) ≤ _); first | omega | decide) | ((with_reducible show (_ : Int) < _); first | omega | decide) | ((with_reducible show (_ : Nat) < _); omega) | ((with_reducible show (_ : Nat) ≤ _); omega)
        all_goals try (first | ((with_reducible show False); exact hs0 h) | (with_reducible exact tnb h) | ((with_reducible show (0 : Int) ≤ _); rw [e1]; exact Int.natCast_nonneg _) | (with_reducible exact na) | ((with_reducible show (_ : Int) ≤ (_ : Int)); rw [e2]; first | (rw [e1]; exact Int.ofNat_le.2 e3.1) | (rw [hlen]; exact Int.ofNat_le.2 e3.2)))
        repeat' (first | with_reducible rfl | ((conv => whnf); first | refine And.intro ?_ ?_ | (intro h; first | with_reducible exact tf_no h | with_reducible exact ft_no h | exact Bool.noConfusion h | with_reducible exact h | (have ht : true = true := h; clear ht h) | skip) | ((with_reducible refine ECall.mark ?_); first | refine ECall.only ?_ (fun h => nomatch h) | refine ECall.only ?_ ?_) | ((with_reducible refine Drawn.mark ?_); first | refine Drawn.quiet (by kernel_rfl) ?_) | refine dcell_ok rfl ?_ | refine AppC.new ?_))
        all_goals try (first | ((with_reducible show _ ≤ _); exact Nat.le_refl _) | ((with_reducible show Option.all _ _ = true); rfl))
        all_goals try first | ((with_reducible show Option.isSome (slElem _ _) = true); kernel_rfl) | ((with_reducible show slElem _ _ = some _); kernel_rfl) | ((with_reducible refine enters_mark ?_); kernel_rfl) | (with_reducible assumption) | ((with_reducible show List.all _ DV.one = true); rfl) | ((with_reducible show (_ : Nat) = _); rfl) | ((with_reducible show (_ == true) = true); simpa using h) | ((with_reducible show (_ : Nat) ≤ _); exact Nat.le_of_ble_eq_true rfl) | ((with_reducible show (_ : Int) ≤ _); first | omega | decide) | ((with_reducible show (_ : Int) < _); first | omega | decide) | ((with_reducible show (_ : Nat) < _); omega) | ((with_reducible show (_ : Nat) ≤ _); omega)
        conv => whnf
        exact Tells.mk (DW.tupl (DWl.cons (DW.aggl (DWl.cons (DW.same _ rfl) (DWl.cons (DW.pubM (l := L) (f := rowD) rfl rfl rfl rfl rowRow (rowsC_eq _)) DWl.nil))) (DWl.cons (DW.int (pg_q hN)) (DWl.cons (DW.same _ rfl) DWl.nil))))
end Go.Proofs.YtlchjjchgebfiaaGreatDoor
namespace Go.Proofs.YtlchjjchgebfiaaGreatDoor
open Go.RowKit Go.Dl Go.Dl.Stb
attribute [local irreducible] Tri SCall TSem ECall Drawn DFun QSem PSem PCall GCall MCall Round Go.Dl.Weak dloadE OW DWl Tells IntKind.wrap Retold ESem
theorem pd_m {n s : Nat} (hn : n ≤ 4096) : IntKind.i64.wrap (((n / s : Nat) : Int) * (s : Int)) = ((n / s * s : Nat) : Int) := by
  have := Nat.div_mul_le_self n s
  rw [← Int.natCast_mul]
  generalize n / s * s = q at *
  exact wrapI (by omega) (by omega)
theorem pd_lt {n s : Nat} : n / s * s < n ↔ 0 < n % s := by
  have h := Nat.div_add_mod n s
  rw [Nat.mul_comm] at h
  omega
theorem pd_t {n s : Nat} (hn : n ≤ 4096) (h : 0 < n % s ∨ n = 0) : (bif decide (IntKind.i64.wrap (IntKind.i64.wrap (Int.tdiv (n : Int) (s : Int)) * (s : Int)) < (n : Int)) then true else IntKind.i64.wrap (Int.tdiv (n : Int) (s : Int)) == 0) = true := by
  rw [pg_q hn, pd_m hn]
  rcases h with h | h
  · rw [decide_eq_true (Int.ofNat_lt.2 (pd_lt.2 h))]; rfl
  · subst h
    rw [Nat.zero_div]; cases decide (((0 * s : Nat) : Int) < ((0 : Nat) : Int)) <;> rfl
theorem pd_f {n s : Nat} (hn : n ≤ 4096) (h : ¬ (0 < n % s ∨ n = 0)) : (bif decide (IntKind.i64.wrap (IntKind.i64.wrap (Int.tdiv (n : Int) (s : Int)) * (s : Int)) < (n : Int)) then true else IntKind.i64.wrap (Int.tdiv (n : Int) (s : Int)) == 0) = false := by
  rw [pg_q hn, pd_m hn, decide_eq_false (fun c => h (.inl (pd_lt.1 (Int.ofNat_lt.1 c))))]
  have h1 : n / s ≠ 0 := fun c => by
    have h3 := Nat.div_add_mod n s
    rw [c] at h3
    omega
  exact beq_eq_false_iff_ne.2 (by omega)
theorem pd_lo {N s a : Nat} (hN : N ≤ 4096) (hs1 : 1 ≤ s) (ha : a < pgs N s) : IntKind.i64.wrap ((a : Int) * (s : Int)) = ((pgLo s a : Nat) : Int) := by
  obtain ⟨h1, h2⟩ := pg_le hs1 ha
  rw [← Int.natCast_mul]
  unfold pgLo
  generalize a * s = L at *
  exact wrapI (by omega) (by omega)
theorem pd_c {N s a : Nat} {x : Int} (hN : N ≤ 4096) (hs1 : 1 ≤ s) (ha : a < pgs N s) (e : x = ((pgLo s a : Nat) : Int)) : IntKind.i64.wrap ((N : Int) - x) = ((N - pgLo s a : Nat) : Int) := by
  obtain ⟨h1, h2⟩ := pg_le hs1 ha
  subst e
  unfold pgLo
  generalize a * s = L at *
  rw [wrapI (by omega) (by omega)]; omega
theorem pd_hi {N s a : Nat} {x : Int} (hN : N ≤ 4096) (hs1 : 1 ≤ s) (ha : a < pgs N s) (e : x = ((pgLo s a : Nat) : Int)) (h : s < N - pgLo s a) : IntKind.i64.wrap (x + (s : Int)) = ((pgHi N s a : Nat) : Int) := by
  obtain ⟨h1, h2⟩ := pg_le hs1 ha
  subst e
  unfold pgHi
  unfold pgLo at *
  generalize a * s = L at *
  rw [wrapI (by omega) (by omega)]; omega
theorem pd_hi0 {N s a : Nat} (hs1 : 1 ≤ s) (ha : a < pgs N s) (h : ¬ s < N - pgLo s a) : (N : Int) = ((pgHi N s a : Nat) : Int) := by
  obtain ⟨h1, h2⟩ := pg_le hs1 ha
  unfold pgHi
  unfold pgLo at *
  generalize a * s = L at *
  omega
set_option maxRecDepth 20000 in
set_option maxHeartbeats 4000000 in
theorem page28_D (t : Tb) (ht : CpOk t) (size at_ : Int) : DPure Tryz.prog 28 [tab t, int1 size, int1 at_] (pgR (pgV t size at_)) := by
  by_cases h1 : size < 1
  · rw [show pgV t size at_ = ((⟨[], []⟩, 0, 31) : Tb × Int × Int) by unfold pgV; rw [if_pos h1]]
    refine DFun.data (DFun.body Tryz.func28 rfl (by kernel_rfl) ?_)
    repeat' (first | with_reducible rfl | ((conv => whnf); first | refine And.intro ?_ ?_ | (intro h; first | with_reducible exact tf_no h | with_reducible exact ft_no h | exact Bool.noConfusion h | with_reducible exact h | (exfalso; exact dn_t h1 h) | (have ht : true = true := h; clear ht h) | skip) | ((with_reducible refine ECall.mark ?_); first | refine ECall.only ?_ (fun h => nomatch h) | refine ECall.only ?_ ?_) | ((with_reducible refine Drawn.mark ?_); first | refine Drawn.quiet (by kernel_rfl) ?_) | refine dcell_ok rfl ?_ | refine AppC.new ?_))
    all_goals try first | ((with_reducible show Option.isSome (slElem _ _) = true); kernel_rfl) | ((with_reducible show slElem _ _ = some _); kernel_rfl) | ((with_reducible refine enters_mark ?_); kernel_rfl) | (with_reducible assumption) | ((with_reducible show List.all _ DV.one = true); rfl) | ((with_reducible show (_ : Nat) = _); rfl) | ((with_reducible show (_ == true) = true); simpa using h) | ((with_reducible show (_ : Nat) ≤ _); exact Nat.le_of_ble_eq_true rfl) | ((with_reducible show (_ : Int) ≤ _); first | omega | decide) | ((with_reducible show (_ : Int) < _); first | omega | decide) | ((with_reducible show (_ : Nat) < _); omega) | ((with_reducible show (_ : Nat) ≤ _); omega)
    conv => whnf
    exact Tells.mk (DW.tupl (DWl.cons (DW.aggl (DWl.cons (DW.nilLst _) (DWl.cons (DW.nilLst _) DWl.nil))) (DWl.cons (DW.same _ rfl) (DWl.cons (DW.same _ rfl) DWl.nil))))
  · obtain ⟨s, hs2⟩ : ∃ s : Nat, size = s := ⟨size.toNat, by omega⟩
    subst hs2
    have hs1 : 1 ≤ s := by omega
    have hlen : (t.rows.map rowD).length = t.rows.length := List.length_map _
    have hN : (t.rows.map rowD).length ≤ 4096 := by rw [hlen]; exact ht.rows
    have hs0 : ((s : Nat) : Int) ≠ 0 := by omega
    by_cases hx : 0 < (t.rows.map rowD).length % s ∨ (t.rows.map rowD).length = 0
    · have t1 : (bif decide (IntKind.i64.wrap (IntKind.i64.wrap (Int.tdiv (((t.rows.map rowD).length : Nat) : Int) (s : Int)) * (s : Int)) < (((t.rows.map rowD).length : Nat) : Int)) then true else IntKind.i64.wrap (Int.tdiv (((t.rows.map rowD).length : Nat) : Int) (s : Int)) == 0) = true := pd_t hN hx
      have hp : pgs t.rows.length s = (t.rows.map rowD).length / s + 1 := by rw [← hlen]; unfold pgs; rw [if_pos hx]
      by_cases hb : at_ < 0 ∨ (((t.rows.map rowD).length / s + 1 : Nat) : Int) ≤ at_
      · have t2 : (bif decide (at_ < 0) then true else decide (IntKind.i64.wrap (IntKind.i64.wrap (Int.tdiv (((t.rows.map rowD).length : Nat) : Int) (s : Int)) + 1) ≤ at_)) = true := by rw [pg_q1 hN]; exact pg_bad hb
        rw [show pgV t s at_ = ((⟨[], []⟩, (((t.rows.map rowD).length / s + 1 : Nat) : Int), 44) : Tb × Int × Int) by unfold pgV; rw [if_neg h1, Int.toNat_natCast, hp, if_pos hb]]
        refine DFun.data (DFun.body Tryz.func28 rfl (by kernel_rfl) ?_)
        repeat' (first | with_reducible rfl | ((conv => whnf); first | refine And.intro ?_ ?_ | (intro h; first | with_reducible exact tf_no h | with_reducible exact ft_no h | exact Bool.noConfusion h | with_reducible exact h | (exfalso; exact dn_f h1 h) | (exfalso; exact bt_x t1 h) | (exfalso; exact bt_x t2 h) | (have ht : true = true := h; clear ht h) | skip) | ((with_reducible refine ECall.mark ?_); first | refine ECall.only ?_ (fun h => nomatch h) | refine ECall.only ?_ ?_) | ((with_reducible refine Drawn.mark ?_); first | refine Drawn.quiet (by kernel_rfl) ?_) | refine dcell_ok rfl ?_ | refine AppC.new ?_))
        all_goals try first | ((with_reducible show Option.isSome (slElem _ _) = true); kernel_rfl) | ((with_reducible show slElem _ _ = some _); kernel_rfl) | ((with_reducible refine enters_mark ?_); kernel_rfl) | (with_reducible assumption) | ((with_reducible show List.all _ DV.one = true); rfl) | ((with_reducible show (_ : Nat) = _); rfl) | ((with_reducible show (_ == true) = true); simpa using h) | ((with_reducible show (_ : Nat) ≤ _); exact Nat.le_of_ble_eq_true rfl) | ((with_reducible show (_ : Int) ≤ _); first | omega | decide) | ((with_reducible show (_ : Int) < _); first | omega | decide) | ((with_reducible show (_ : Nat) < _); omega) | ((with_reducible show (_ : Nat) ≤ _); omega)
        all_goals try (first | ((with_reducible show False); exact hs0 h) | (with_reducible exact tnb h))
        conv => whnf
        exact Tells.mk (DW.tupl (DWl.cons (DW.aggl (DWl.cons (DW.nilLst _) (DWl.cons (DW.nilLst _) DWl.nil))) (DWl.cons (DW.int (pg_q1 hN)) (DWl.cons (DW.same _ rfl) DWl.nil))))
      · have t2 : (bif decide (at_ < 0) then true else decide (IntKind.i64.wrap (IntKind.i64.wrap (Int.tdiv (((t.rows.map rowD).length : Nat) : Int) (s : Int)) + 1) ≤ at_)) = false := by rw [pg_q1 hN]; exact pg_good hb
        obtain ⟨a, ha2⟩ : ∃ a : Nat, at_ = a := ⟨at_.toNat, by omega⟩
        subst ha2
        rw [show pgV t s a = ((⟨t.head, (t.rows.take (pgHi t.rows.length s a)).drop (pgLo s a)⟩, (((t.rows.map rowD).length / s + 1 : Nat) : Int), 0) : Tb × Int × Int) by unfold pgV; rw [if_neg h1, Int.toNat_natCast, hp, if_neg hb, Int.toNat_natCast]]
        have hap : a < pgs (t.rows.map rowD).length s := by rw [hlen, hp]; omega
        have e1 := pd_lo hN hs1 hap
        have e3 := pg_lh hs1 hap
        rw [hlen] at e3
        have na : (decide ((a : Int) < 0) == false) = true := by rw [decide_eq_false (by omega)]; rfl
        generalize hL : (t.rows.take (pgHi t.rows.length s a)).drop (pgLo s a) = L
        have el := fun (x y : Int) (h1 : x = _) (h2 : y = _) => (pg_list (l := t.rows) (x := x) (y := y) (a := pgHi t.rows.length s a) (b := pgLo s a) h1 h2).trans (congrArg (List.map rowD) hL)
        by_cases h3 : s < (t.rows.map rowD).length - pgLo s a
        · skip
          have t3 : decide ((s : Int) < IntKind.i64.wrap ((((t.rows.map rowD).length : Nat) : Int) - IntKind.i64.wrap ((a : Int) * (s : Int)))) = true := by rw [pd_c hN hs1 hap e1]; exact decide_eq_true (Int.ofNat_lt.2 h3)
          have e2 := (pd_hi hN hs1 hap e1 h3).trans (congrArg (fun n => ((pgHi n s a : Nat) : Int)) hlen)
          refine DFun.data (DFun.body Tryz.func28 rfl (by kernel_rfl) ?_)
          repeat' (first | with_reducible rfl | ((conv => whnf); first | refine And.intro ?_ ?_ | (intro h; first | with_reducible exact tf_no h | with_reducible exact ft_no h | exact Bool.noConfusion h | with_reducible exact h | (exfalso; exact dn_f h1 h) | (exfalso; exact bt_x t1 h) | (exfalso; exact bt_x t2 h) | (exfalso; exact bt_x t3 h) | (have ht : true = true := h; clear ht h) | skip) | ((with_reducible refine SCall.mark ?_); first | refine SCall.data (copy11_D t ht) rfl rfl ?_ | refine SCall.scal (copy11_D t ht) rfl rfl ?_) | ((with_reducible refine PCall.mark ?_); first | refine PCall.mk (copy11_D t ht) rfl rfl ?_) | ((with_reducible refine GCall.mark ?_); first | refine GCall.data (fun _ => copy11_D t ht) rfl rfl ?_ | refine GCall.scal (fun _ => copy11_D t ht) rfl rfl ?_) | ((with_reducible refine MCall.mark ?_); first | refine MCall.data (fun _ => copy11_D t ht) rfl rfl ?_ | refine MCall.plain (PCall.mk (copy11_D t ht) rfl rfl ?_)) | ((with_reducible refine ECall.mark ?_); first | refine ECall.only ?_ (fun h => nomatch h) | refine ECall.only ?_ ?_) | ((with_reducible refine Drawn.mark ?_); first | refine Drawn.quiet (by kernel_rfl) ?_) | refine dcell_ok rfl ?_ | refine AppC.new ?_))
          all_goals try first | ((with_reducible show Option.isSome (slElem _ _) = true); kernel_rfl) | ((with_reducible show slElem _ _ = some _); kernel_rfl) | ((with_reducible refine enters_mark ?_); kernel_rfl) | (with_reducible assumption) | ((with_reducible show List.all _ DV.one = true); rfl) | ((with_reducible show (_ : Nat) = _); rfl) | ((with_reducible show (_ == true) = true); simpa using h) | ((with_reducible show (_ : Nat) ≤ _); exact Nat.le_of_ble_eq_true rfl) | ((with_reducible show (_ : Int) ≤ _); first | omega | decide) | ((with_reducible show (_ : Int) < _); first | omega | decide) | ((with_reducible show (_ : Nat) < _); omega) | ((with_reducible show (_ : Nat) ≤ _); omega)
          all_goals try (first | ((with_reducible show False); exact hs0 h) | (with_reducible exact tnb h) | (with_reducible exact na) | ((with_reducible show (0 : Int) ≤ _); rw [e1]; exact Int.natCast_nonneg _) | ((with_reducible show (_ : Int) ≤ (_ : Int)); rw [e2]; first | (rw [e1]; exact Int.ofNat_le.2 e3.1) | (rw [hlen]; exact Int.ofNat_le.2 e3.2)))
          conv => whnf
          exact Tells.mk (DW.tupl (DWl.cons (DW.aggl (DWl.cons (DW.same _ rfl) (DWl.cons (DW.lstE (el _ _ e2 e1)) DWl.nil))) (DWl.cons (DW.int (pg_q1 hN)) (DWl.cons (DW.same _ rfl) DWl.nil))))
        · skip
          have t3 : decide ((s : Int) < IntKind.i64.wrap ((((t.rows.map rowD).length : Nat) : Int) - IntKind.i64.wrap ((a : Int) * (s : Int)))) = false := by rw [pd_c hN hs1 hap e1]; exact decide_eq_false (fun c => h3 (Int.ofNat_lt.1 c))
          have e2 := (pd_hi0 hs1 hap h3).trans (congrArg (fun n => ((pgHi n s a : Nat) : Int)) hlen)
          refine DFun.data (DFun.body Tryz.func28 rfl (by kernel_rfl) ?_)
          repeat' (first | with_reducible rfl | ((conv => whnf); first | refine And.intro ?_ ?_ | (intro h; first | with_reducible exact tf_no h | with_reducible exact ft_no h | exact Bool.noConfusion h | with_reducible exact h | (exfalso; exact dn_f h1 h) | (exfalso; exact bt_x t1 h) | (exfalso; exact bt_x t2 h) | (exfalso; exact bt_x t3 h) | (have ht : true = true := h; clear ht h) | skip) | ((with_reducible refine SCall.mark ?_); first | refine SCall.data (copy11_D t ht) rfl rfl ?_ | refine SCall.scal (copy11_D t ht) rfl rfl ?_) | ((with_reducible refine PCall.mark ?_); first | refine PCall.mk (copy11_D t ht) rfl rfl ?_) | ((with_reducible refine GCall.mark ?_); first | refine GCall.data (fun _ => copy11_D t ht) rfl rfl ?_ | refine GCall.scal (fun _ => copy11_D t ht) rfl rfl ?_) | ((with_reducible refine MCall.mark ?_); first | refine MCall.data (fun _ => copy11_D t ht) rfl rfl ?_ | refine MCall.plain (PCall.mk (copy11_D t ht) rfl rfl ?_)) | ((with_reducible refine ECall.mark ?_); first | refine ECall.only ?_ (fun h => nomatch h) | refine ECall.only ?_ ?_) | ((with_reducible refine Drawn.mark ?_); first | refine Drawn.quiet (by kernel_rfl) ?_) | refine dcell_ok rfl ?_ | refine AppC.new ?_))
          all_goals try first | ((with_reducible show Option.isSome (slElem _ _) = true); kernel_rfl) | ((with_reducible show slElem _ _ = some _); kernel_rfl) | ((with_reducible refine enters_mark ?_); kernel_rfl) | (with_reducible assumption) | ((with_reducible show List.all _ DV.one = true); rfl) | ((with_reducible show (_ : Nat) = _); rfl) | ((with_reducible show (_ == true) = true); simpa using h) | ((with_reducible show (_ : Nat) ≤ _); exact Nat.le_of_ble_eq_true rfl) | ((with_reducible show (_ : Int) ≤ _); first | omega | decide) | ((with_reducible show (_ : Int) < _); first | omega | decide) | ((with_reducible show (_ : Nat) < _); omega) | ((with_reducible show (_ : Nat) ≤ _); omega)
          all_goals try (first | ((with_reducible show False); exact hs0 h) | (with_reducible exact tnb h) | (with_reducible exact na) | ((with_reducible show (0 : Int) ≤ _); rw [e1]; exact Int.natCast_nonneg _) | ((with_reducible show (_ : Int) ≤ (_ : Int)); rw [e2]; first | (rw [e1]; exact Int.ofNat_le.2 e3.1) | (rw [hlen]; exact Int.ofNat_le.2 e3.2)))
          conv => whnf
          exact Tells.mk (DW.tupl (DWl.cons (DW.aggl (DWl.cons (DW.same _ rfl) (DWl.cons (DW.lstE (el _ _ e2 e1)) DWl.nil))) (DWl.cons (DW.int (pg_q1 hN)) (DWl.cons (DW.same _ rfl) DWl.nil))))
    · have t1 : (bif decide (IntKind.i64.wrap (IntKind.i64.wrap (Int.tdiv (((t.rows.map rowD).length : Nat) : Int) (s : Int)) * (s : Int)) < (((t.rows.map rowD).length : Nat) : Int)) then true else IntKind.i64.wrap (Int.tdiv (((t.rows.map rowD).length : Nat) : Int) (s : Int)) == 0) = false := pd_f hN hx
      have hp : pgs t.rows.length s = (t.rows.map rowD).length / s := by rw [← hlen]; unfold pgs; rw [if_neg hx]
      by_cases hb : at_ < 0 ∨ (((t.rows.map rowD).length / s : Nat) : Int) ≤ at_
      · have t2 : (bif decide (at_ < 0) then true else decide (IntKind.i64.wrap (Int.tdiv (((t.rows.map rowD).length : Nat) : Int) (s : Int)) ≤ at_)) = true := by rw [pg_q hN]; exact pg_bad hb
        rw [show pgV t s at_ = ((⟨[], []⟩, (((t.rows.map rowD).length / s : Nat) : Int), 44) : Tb × Int × Int) by unfold pgV; rw [if_neg h1, Int.toNat_natCast, hp, if_pos hb]]
        refine DFun.data (DFun.body Tryz.func28 rfl (by kernel_rfl) ?_)
        repeat' (first | with_reducible rfl | ((conv => whnf); first | refine And.intro ?_ ?_ | (intro h; first | with_reducible exact tf_no h | with_reducible exact ft_no h | exact Bool.noConfusion h | with_reducible exact h | (exfalso; exact dn_f h1 h) | (exfalso; exact bt_x t1 h) | (exfalso; exact bt_x t2 h) | (have ht : true = true := h; clear ht h) | skip) | ((with_reducible refine ECall.mark ?_); first | refine ECall.only ?_ (fun h => nomatch h) | refine ECall.only ?_ ?_) | ((with_reducible refine Drawn.mark ?_); first | refine Drawn.quiet (by kernel_rfl) ?_) | refine dcell_ok rfl ?_ | refine AppC.new ?_))
        all_goals try first | ((with_reducible show Option.isSome (slElem _ _) = true); kernel_rfl) | ((with_reducible show slElem _ _ = some _); kernel_rfl) | ((with_reducible refine enters_mark ?_); kernel_rfl) | (with_reducible assumption) | ((with_reducible show List.all _ DV.one = true); rfl) | ((with_reducible show (_ : Nat) = _); rfl) | ((with_reducible show (_ == true) = true); simpa using h) | ((with_reducible show (_ : Nat) ≤ _); exact Nat.le_of_ble_eq_true rfl) | ((with_reducible show (_ : Int) ≤ _); first | omega | decide) | ((with_reducible show (_ : Int) < _); first | omega | decide) | ((with_reducible show (_ : Nat) < _); omega) | ((with_reducible show (_ : Nat) ≤ _); omega)
        all_goals try (first | ((with_reducible show False); exact hs0 h) | (with_reducible exact tnb h))
        conv => whnf
        exact Tells.mk (DW.tupl (DWl.cons (DW.aggl (DWl.cons (DW.nilLst _) (DWl.cons (DW.nilLst _) DWl.nil))) (DWl.cons (DW.int (pg_q hN)) (DWl.cons (DW.same _ rfl) DWl.nil))))
      · have t2 : (bif decide (at_ < 0) then true else decide (IntKind.i64.wrap (Int.tdiv (((t.rows.map rowD).length : Nat) : Int) (s : Int)) ≤ at_)) = false := by rw [pg_q hN]; exact pg_good hb
        obtain ⟨a, ha2⟩ : ∃ a : Nat, at_ = a := ⟨at_.toNat, by omega⟩
        subst ha2
        rw [show pgV t s a = ((⟨t.head, (t.rows.take (pgHi t.rows.length s a)).drop (pgLo s a)⟩, (((t.rows.map rowD).length / s : Nat) : Int), 0) : Tb × Int × Int) by unfold pgV; rw [if_neg h1, Int.toNat_natCast, hp, if_neg hb, Int.toNat_natCast]]
        have hap : a < pgs (t.rows.map rowD).length s := by rw [hlen, hp]; omega
        have e1 := pd_lo hN hs1 hap
        have e3 := pg_lh hs1 hap
        rw [hlen] at e3
        have na : (decide ((a : Int) < 0) == false) = true := by rw [decide_eq_false (by omega)]; rfl
        generalize hL : (t.rows.take (pgHi t.rows.length s a)).drop (pgLo s a) = L
        have el := fun (x y : Int) (h1 : x = _) (h2 : y = _) => (pg_list (l := t.rows) (x := x) (y := y) (a := pgHi t.rows.length s a) (b := pgLo s a) h1 h2).trans (congrArg (List.map rowD) hL)
        by_cases h3 : s < (t.rows.map rowD).length - pgLo s a
        · skip
          have t3 : decide ((s : Int) < IntKind.i64.wrap ((((t.rows.map rowD).length : Nat) : Int) - IntKind.i64.wrap ((a : Int) * (s : Int)))) = true := by rw [pd_c hN hs1 hap e1]; exact decide_eq_true (Int.ofNat_lt.2 h3)
          have e2 := (pd_hi hN hs1 hap e1 h3).trans (congrArg (fun n => ((pgHi n s a : Nat) : Int)) hlen)
          refine DFun.data (DFun.body Tryz.func28 rfl (by kernel_rfl) ?_)
          repeat' (first | with_reducible rfl | ((conv => whnf); first | refine And.intro ?_ ?_ | (intro h; first | with_reducible exact tf_no h | with_reducible exact ft_no h | exact Bool.noConfusion h | with_reducible exact h | (exfalso; exact dn_f h1 h) | (exfalso; exact bt_x t1 h) | (exfalso; exact bt_x t2 h) | (exfalso; exact bt_x t3 h) | (have ht : true = true := h; clear ht h) | skip) | ((with_reducible refine SCall.mark ?_); first | refine SCall.data (copy11_D t ht) rfl rfl ?_ | refine SCall.scal (copy11_D t ht) rfl rfl ?_) | ((with_reducible refine PCall.mark ?_); first | refine PCall.mk (copy11_D t ht) rfl rfl ?_) | ((with_reducible refine GCall.mark ?_); first | refine GCall.data (fun _ => copy11_D t ht) rfl rfl ?_ | refine GCall.scal (fun _ => copy11_D t ht) rfl rfl ?_) | ((with_reducible refine MCall.mark ?_); first | refine MCall.data (fun _ => copy11_D t ht) rfl rfl ?_ | refine MCall.plain (PCall.mk (copy11_D t ht) rfl rfl ?_)) | ((with_reducible refine ECall.mark ?_); first | refine ECall.only ?_ (fun h => nomatch h) | refine ECall.only ?_ ?_) | ((with_reducible refine Drawn.mark ?_); first | refine Drawn.quiet (by kernel_rfl) ?_) | refine dcell_ok rfl ?_ | refine AppC.new ?_))
          all_goals try first | ((with_reducible show Option.isSome (slElem _ _) = true); kernel_rfl) | ((with_reducible show slElem _ _ = some _); kernel_rfl) | ((with_reducible refine enters_mark ?_); kernel_rfl) | (with_reducible assumption) | ((with_reducible show List.all _ DV.one = true); rfl) | ((with_reducible show (_ : Nat) = _); rfl) | ((with_reducible show (_ == true) = true); simpa using h) | ((with_reducible show (_ : Nat) ≤ _); exact Nat.le_of_ble_eq_true rfl) | ((with_reducible show (_ : Int) ≤ _); first | omega | decide) | ((with_reducible show (_ : Int) < _); first | omega | decide) | ((with_reducible show (_ : Nat) < _); omega) | ((with_reducible show (_ : Nat) ≤ _); omega)
          all_goals try (first | ((with_reducible show False); exact hs0 h) | (with_reducible exact tnb h) | (with_reducible exact na) | ((with_reducible show (0 : Int) ≤ _); rw [e1]; exact Int.natCast_nonneg _) | ((with_reducible show (_ : Int) ≤ (_ : Int)); rw [e2]; first | (rw [e1]; exact Int.ofNat_le.2 e3.1) | (rw [hlen]; exact Int.ofNat_le.2 e3.2)))
          conv => whnf
          exact Tells.mk (DW.tupl (DWl.cons (DW.aggl (DWl.cons (DW.same _ rfl) (DWl.cons (DW.lstE (el _ _ e2 e1)) DWl.nil))) (DWl.cons (DW.int (pg_q hN)) (DWl.cons (DW.same _ rfl) DWl.nil))))
        · skip
          have t3 : decide ((s : Int) < IntKind.i64.wrap ((((t.rows.map rowD).length : Nat) : Int) - IntKind.i64.wrap ((a : Int) * (s : Int)))) = false := by rw [pd_c hN hs1 hap e1]; exact decide_eq_false (fun c => h3 (Int.ofNat_lt.1 c))
          have e2 := (pd_hi0 hs1 hap h3).trans (congrArg (fun n => ((pgHi n s a : Nat) : Int)) hlen)
          refine DFun.data (DFun.body Tryz.func28 rfl (by kernel_rfl) ?_)
          repeat' (first | with_reducible rfl | ((conv => whnf); first | refine And.intro ?_ ?_ | (intro h; first | with_reducible exact tf_no h | with_reducible exact ft_no h | exact Bool.noConfusion h | with_reducible exact h | (exfalso; exact dn_f h1 h) | (exfalso; exact bt_x t1 h) | (exfalso; exact bt_x t2 h) | (exfalso; exact bt_x t3 h) | (have ht : true = true := h; clear ht h) | skip) | ((with_reducible refine SCall.mark ?_); first | refine SCall.data (copy11_D t ht) rfl rfl ?_ | refine SCall.scal (copy11_D t ht) rfl rfl ?_) | ((with_reducible refine PCall.mark ?_); first | refine PCall.mk (copy11_D t ht) rfl rfl ?_) | ((with_reducible refine GCall.mark ?_); first | refine GCall.data (fun _ => copy11_D t ht) rfl rfl ?_ | refine GCall.scal (fun _ => copy11_D t ht) rfl rfl ?_) | ((with_reducible refine MCall.mark ?_); first | refine MCall.data (fun _ => copy11_D t ht) rfl rfl ?_ | refine MCall.plain (PCall.mk (copy11_D t ht) rfl rfl ?_)) | ((with_reducible refine ECall.mark ?_); first | refine ECall.only ?_ (fun h => nomatch h) | refine ECall.only ?_ ?_) | ((with_reducible refine Drawn.mark ?_); first | refine Drawn.quiet (by kernel_rfl) ?_) | refine dcell_ok rfl ?_ | refine AppC.new ?_))
          all_goals try first | ((with_reducible show Option.isSome (slElem _ _) = true); kernel_rfl) | ((with_reducible show slElem _ _ = some _); kernel_rfl) | ((with_reducible refine enters_mark ?_); kernel_rfl) | (with_reducible assumption) | ((with_reducible show List.all _ DV.one = true); rfl) | ((with_reducible show (_ : Nat) = _); rfl) | ((with_reducible show (_ == true) = true); simpa using h) | ((with_reducible show (_ : Nat) ≤ _); exact Nat.le_of_ble_eq_true rfl) | ((with_reducible show (_ : Int) ≤ _); first | omega | decide) | ((with_reducible show (_ : Int) < _); first | omega | decide) | ((with_reducible show (_ : Nat) < _); omega) | ((with_reducible show (_ : Nat) ≤ _); omega)
          all_goals try (first | ((with_reducible show False); exact hs0 h) | (with_reducible exact tnb h) | (with_reducible exact na) | ((with_reducible show (0 : Int) ≤ _); rw [e1]; exact Int.natCast_nonneg _) | ((with_reducible show (_ : Int) ≤ (_ : Int)); rw [e2]; first | (rw [e1]; exact Int.ofNat_le.2 e3.1) | (rw [hlen]; exact Int.ofNat_le.2 e3.2)))
          conv => whnf
          exact Tells.mk (DW.tupl (DWl.cons (DW.aggl (DWl.cons (DW.same _ rfl) (DWl.cons (DW.lstE (el _ _ e2 e1)) DWl.nil))) (DWl.cons (DW.int (pg_q hN)) (DWl.cons (DW.same _ rfl) DWl.nil))))
end Go.Proofs.YtlchjjchgebfiaaGreatDoor
namespace Go.Proofs.YtlchjjchgebfiaaGreatDoor
open Go.RowKit Go.Dl Go.Shelf Go.Sort
theorem ok_self {s : ByteArray} (h : numOk s = true) : numB (numN s) = s := by
  unfold numOk at h
  unfold numN
  split at h
  · rename_i v e
    rw [e]
    exact ba_eq.1 h
  · cases h
theorem less_tot {a b : ByteArray} (h1 : lessB a b = false) (h2 : lessB b a = false) : a = b := by
  unfold lessB at h1 h2
  cases ha : numOk a with
  | true =>
    cases hb : numOk b with
    | true =>
      rw [ha, hb] at h1 h2
      have g1 : ¬ (numD a).1 < (numD b).1 := of_decide_eq_false h1
      have g2 : ¬ (numD b).1 < (numD a).1 := of_decide_eq_false h2
      have e1 := (num_to (s := a) (by rw [num_ok]; exact ha)).2
      have e2 := (num_to (s := b) (by rw [num_ok]; exact hb)).2
      rw [← ok_self ha, ← ok_self hb, e1, e2, show (numD a).1 = (numD b).1 by omega]
    | false => rw [ha, hb] at h1; cases h1
  | false =>
    cases hb : numOk b with
    | true => rw [ha, hb] at h2; cases h2
    | false =>
      rw [ha, hb] at h1 h2
      have h1 : ltB a b = false := h1
      have h2 : ltB b a = false := h2
      rw [ltB, bytesLess_is] at h1 h2
      simp only [decide_eq_false_iff_not, List.not_lt] at h1 h2
      have : a.toList = b.toList := List.le_antisymm h2 h1
      exact ba_data (by simpa [ByteArray.toList_eq] using this)
abbrev Cel : Type := {s : ByteArray // s.size ≤ 1024}
instance : Inhabited Cel := ⟨⟨emB, by decide⟩⟩
def encC (x : Cel) : Value := .string x.1
def cfC (x y : Cel) : Int := cmpT x.1 y.1
theorem ltC (x y : Cel) : ltOf cfC x y = lessB x.1 y.1 := cmp_less _ _
theorem less_irr (a : ByteArray) : lessB a a = false := by
  cases h : lessB a a with
  | false => rfl
  | true => exact absurd (h.symm.trans (less_asym h)) (by decide)
theorem swoC : SWO (ltOf cfC) where
  irrefl x := by rw [ltC]; exact less_irr _
  trans x y z h1 h2 := by
    rw [ltC] at *
    cases h : lessB x.1 z.1 with
    | true => rfl
    | false => rw [less_neg (less_asym h1) h] at h2; cases h2
  ntrans x y z h1 h2 := by rw [ltC] at *; exact less_neg h1 h2
theorem totC (x y : Cel) (h1 : ltOf cfC x y = false) (h2 : ltOf cfC y x = false) : x = y := by
  rw [ltC] at h1 h2
  exact Subtype.ext (less_tot h1 h2)
def enc1 (x : Cel) : List Value := [encC x]
theorem holds1 {w : World} {blk : Nat} {d : Array Cel} (h : HoldsK enc1 1 w blk 0 d) : Holds encC w blk 0 d := fun j hj => by
  have h1 := h j (by simpa [flatK] using hj)
  rw [get_flatK _ _ _ _ (by omega)] at h1
  simp only [Nat.div_one, Nat.mod_one] at h1
  exact h1
theorem put1 (w : World) (blk : Nat) (d : Array Cel) : putRow encC w blk 0 d = putRowK enc1 1 w blk 0 d := by
  unfold putRowK putRow
  congr 1
  funext c
  unfold putCells
  congr 1
  funext k x
  rw [size_flatK]
  by_cases hk : 0 ≤ k ∧ k < 0 + d.size
  · rw [if_pos hk, if_pos (by omega), get_flatK _ _ _ _ (by omega)]
    simp only [Nat.sub_zero, Nat.div_one, Nat.mod_one]
    rfl
  · rw [if_neg hk, if_neg (by omega)]
theorem world1 (w : World) (blk n : Nat) (d : Array Cel) (os : Array Obj) : sortWorld encC w blk 0 n d os = sortWorldK enc1 1 w blk 0 n d os := by
  unfold sortWorld sortWorldK
  rw [put1]
theorem cmp_lays (blk size : Nat) (w : World) (hg : ∀ W, BelowD blk w W → Gok W) (hb : blk < w.heap.size) : CmpLays1 Tryz.prog 59 #[] encC cfC blk 0 size w := by
  intro m os dk hs x y
  have hW : Gok (sortWorld encC w blk 0 m dk os) := by
    refine hg _ ⟨rfl, rfl, rfl, ?_, fun k hk => ?_, fun _ => Nat.le_add_right _ _⟩
    · show w.heap.size ≤ ((w.heap.modify blk _) ++ os).size
      simp
    · show ((w.heap.modify blk _) ++ os)[k]? = _
      rw [Array.getElem?_append_left (by simp; omega), Array.getElem?_modify, if_neg (by omega)]
  have h := cmp59_D x.1 y.1 (Nat.le_trans x.2 (by decide)) (Nat.le_trans y.2 (by decide)) (sortWorld encC w blk 0 m dk os) (fun _ => True) [encC x, encC y] hW (fun _ _ => trivial) ?_
  · refine (Calls.drew h).mono fun e w' ⟨⟨v, r, s', β', he, hr, hS, hv⟩, hd⟩ => ?_
    subst hr
    have hv := rv_v hv
    subst hv
    subst he
    exact ⟨rfl, Mono.below_grown hS.below.kit (hd (fun c => by cases c))⟩
  · refine ⟨rfl, fun i d v h1 h2 => ?_⟩
    match i with
    | 0 => simp at h1 h2; subst h1 h2; exact .data (.v _ rfl)
    | 1 => simp at h1 h2; subst h1 h2; exact .data (.v _ rfl)
    | i + 2 => simp at h1
end Go.Proofs.YtlchjjchgebfiaaGreatDoor
namespace Go.Proofs.YtlchjjchgebfiaaGreatDoor
open Go.RowKit Go.Dl Go.Shelf Go.Sort
def sortB (l : List ByteArray) : List ByteArray := l.mergeSort fun x y => !lessB y x
theorem sortB_len (l : List ByteArray) : (sortB l).length = l.length := List.length_mergeSort l
theorem cels : ∀ (l : List ByteArray), (∀ s ∈ l, s.size ≤ 1024) → ∃ ls : List Cel, ls.map (·.1) = l
  | [], _ => ⟨[], rfl⟩
  | a :: l, h => by
    obtain ⟨ls, e⟩ := cels l fun s hs => h s (List.mem_cons_of_mem _ hs)
    exact ⟨⟨a, h a List.mem_cons_self⟩ :: ls, by rw [List.map_cons, e]⟩
theorem row1 (l : List Cel) : Go.Dl.rowD enc1 l = (l.map (·.1)).map strV := by
  induction l with
  | nil => rfl
  | cons x l ih => simp only [Go.Dl.rowD, List.map_cons, List.flatten_cons] at *; rw [ih]; rfl
theorem sort_val (l : List Cel) : (l.mergeSort fun x y => !(ltOf cfC) y x).map (·.1) = sortB (l.map (·.1)) := by
  unfold sortB
  exact List.map_mergeSort fun a _ b _ => by rw [ltC]
theorem of_upd {o o' : DObj} : (⟨upd (Sto.of [(0, o)] 1).ob 0 (some o'), (Sto.of [(0, o)] 1).nx⟩ : Sto) = .of [(0, o')] 1 := by
  show Sto.mk _ 1 = Sto.mk _ 1
  congr 1
  funext i
  by_cases h : i = 0
  · subst h; rfl
  · rw [upd_ne _ _ _ h]
    show List.lookup i [(0, o)] = List.lookup i [(0, o')]
    simp [List.lookup, beq_eq_false_iff_ne.2 h]
theorem sort58_S (l : List ByteArray) (hl : ∀ s ∈ l, s.size ≤ 1024) (hn : l.length ≤ 4096) :
    SCall Tryz.prog 58 [.arr 0 l.length, .clo (.func 59) [] []] (.of [(0, ⟨9, 1, l.map strV⟩)] 1) fun r' s' => r' = .tup [] ∧ s' = .of [(0, ⟨9, 1, (sortB l).map strV⟩)] 1 := by
  by_cases hne : l = []
  · subst hne
    rw [show sortB [] = [] from List.eq_nil_of_length_eq_zero (sortB_len [])]
    intro w0 F0 β w vals hs hx
    obtain ⟨hl2, hx⟩ := hx
    match vals, hl2 with
    | [x, y], _ =>
    have hx0 := hx 0 _ _ rfl rfl
    have key : ∀ p cap, Calls Tryz.prog 58 #[.slice p 0 cap, y] w fun e w' => e = .returned (.tuple #[]) ∧ w' = w := fun p cap => AnyF.slices_SortFunc_none { Tryz.sortStrs with } p cap y w
    have fin : ∀ p cap, Calls Tryz.prog 58 #[.slice p 0 cap, y] w fun e w' => ∃ v r s' β', e = .returned v ∧ (r = DV.tup [] ∧ s' = Sto.of [(0, ⟨9, 1, ([] : List ByteArray).map strV⟩)] 1) ∧ SRel w0 F0 s' β' w' ∧ Ext 1 w0 nX (Sto.of [(0, ⟨9, 1, ([] : List ByteArray).map strV⟩)] 1) β w s' β' w' ∧ 1 ≤ s'.nx ∧ RV w' (Fr w0 F0 s' β') β' r v := fun p cap =>
      (key p cap).mono fun e w' ⟨he, hw⟩ => by
        subst hw
        exact ⟨_, _, _, β, he, ⟨rfl, rfl⟩, hs, Ext.refl, Nat.le_refl _, .tup [] [] rfl (fun i d x h => by simp at h)⟩
    rcases rv_arr hx0 with ⟨b, c, hb, hle, rfl⟩ | ⟨hb, hz, rfl⟩
    · exact fin _ _
    · exact fin _ _
  · obtain ⟨ls, rfl⟩ := cels l hl
    have hne2 : ls ≠ [] := fun e => hne (by rw [e]; rfl)
    refine SCall.sortedG (enc := enc1) (k := 1) (l := ls) (l' := ls.mergeSort fun x y => !(ltOf cfC) y x) (fun _ => rfl) (by decide) (fun x v hv => ?_) (o := ⟨9, 1, (ls.map (·.1)).map strV⟩) rfl rfl (row1 ls).symm (List.length_map _) hne2 (List.length_mergeSort ls) (fun blk cap w hH hblk hg => ?_) ?_
    · simp [enc1] at hv; subst hv; rfl
    · have eg : ∀ args w, (callFunc 59 args).run Tryz.prog w = .ok (.enter 59 args) w := enters_of Tryz.func59 (by kernel_rfl) rfl
      have hcon := Any.slices_SortFunc_total Tryz.sortStrs encC (fun _ => rfl) cfC swoC 59 #[] blk 0 cap ls.toArray w eg (cmp_lays blk _ w hg hblk) (holds1 hH) hblk (by simp at hn ⊢; omega) totC
      rw [List.length_map]
      refine hcon.mono fun e w' ⟨he, n, os, hw⟩ => ⟨he, n, os, ?_⟩
      rw [hw, ← world1]
    · exact ⟨rfl, by rw [row1, sort_val]; exact of_upd⟩
end Go.Proofs.YtlchjjchgebfiaaGreatDoor
namespace Go.Proofs.YtlchjjchgebfiaaGreatDoor
open Go.RowKit Go.Dl
abbrev AL : Type := List (ByteArray × Int)
def encA (l : AL) : List (Value × Value) := l.map fun e => (.string e.1, .int .i64 e.2)
def getS (s : ByteArray) : AL → Int
  | [] => 0
  | (a, c) :: l => bif s == a then c else getS s l
def putS (s : ByteArray) (v : Int) : AL → AL
  | [] => [(s, v)]
  | (a, c) :: l => bif s == a then (s, v) :: l else (a, c) :: putS s v l
def posS (s : ByteArray) : AL → Nat → Option (Nat × Value)
  | [], _ => none
  | (a, c) :: l, i => bif s == a then some (i, .int .i64 c) else posS s l (i + 1)
theorem find_is (s : ByteArray) : ∀ (es : List MapEntry) (l : AL) (i : Nat), es.map ent = encA l → Instr.findNow .string (.string s) es i = some (posS s l i)
  | [], l, i, h => by
    cases l with
    | nil => rfl
    | cons a l => cases h
  | e :: es, l, i, h => by
    cases l with
    | nil => cases h
    | cons a l =>
      have h1 : ent e = (.string a.1, .int .i64 a.2) := List.head_eq_of_cons_eq h
      have h2 : es.map ent = encA l := List.tail_eq_of_cons_eq h
      obtain ⟨a, c⟩ := a
      obtain ⟨key, val, born⟩ := e
      have hk : key = .string a := congrArg Prod.fst h1
      have hv : val = .int .i64 c := congrArg Prod.snd h1
      subst hk hv
      rw [Instr.findNow, posS]
      show (match (some (s == a) : Option Bool) with | some true => some (some (i, Value.int .i64 c)) | some false => Instr.findNow .string (.string s) es (i + 1) | none => none) = _
      cases s == a with
      | true => rfl
      | false => exact find_is s es l (i + 1) h2
theorem pos_is (s : ByteArray) (v : Int) : ∀ (l : AL) (i : Nat), (posS s l i = none ∧ getS s l = 0 ∧ putS s v l = l ++ [(s, v)]) ∨ ∃ j c, posS s l i = some (i + j, .int .i64 c) ∧ getS s l = c ∧ l[j]? = some (s, c) ∧ putS s v l = l.set j (s, v)
  | [], i => .inl ⟨rfl, rfl, rfl⟩
  | (a, c) :: l, i => by
    rw [posS, getS, putS]
    cases h : s == a with
    | true => exact .inr ⟨0, c, rfl, rfl, by rw [ba_eq.1 h]; rfl, rfl⟩
    | false =>
      rcases pos_is s v l (i + 1) with ⟨h1, h2, h3⟩ | ⟨j, c', h1, h2, h3, h4⟩
      · exact .inl ⟨h1, h2, congrArg ((a, c) :: ·) h3⟩
      · exact .inr ⟨j + 1, c', h1.trans (by rw [Nat.add_assoc, Nat.add_comm 1 j]), h2, h3, congrArg ((a, c) :: ·) h4⟩
theorem encA_ok (l : AL) : ∀ e ∈ encA l, plOk e.1 = true ∧ plOk e.2 = true := fun e he => by
  obtain ⟨a, _, rfl⟩ := List.mem_map.1 he
  exact ⟨rfl, rfl⟩
theorem under100 : Tryz.prog.underlying 100 = some (.map 9 3) := by kernel_rfl
theorem under9' : Tryz.prog.underlying 9 = some .string := by kernel_rfl
theorem zero3 (w : World) : (zeroValue 3).run Tryz.prog w = .ok (.int .i64 0) w := by kernel_rfl
theorem look_run {es : Array MapEntry} {clk b : Nat} {w : World} {l : AL} (s : ByteArray) (he : es.toList.map ent = encA l) (hb : w.heap[b]? = some (.map es clk)) : (Instr.lookup 100 (.map (some b)) (.string s) false).run Tryz.prog w = .ok (.int .i64 (getS s l)) w := by
  have h1 := find_is s es.toList l 0 he
  have hk : MapKept.IsKey .string (.string s) := trivial
  rcases pos_is s 0 l 0 with ⟨h2, h3, _⟩ | ⟨j, c, h2, h3, _, _⟩
  · rw [h2] at h1
    simp only [Instr.lookup, Sem.run_bind, run_underlying under100, Result.andThen_ok, MapKept.run_getObj_map hb, MapKept.run_checkKey under9' hk, MapKept.run_findKey under9' h1, Sem.run_pure, zero3, h3]
    rfl
  · rw [h2] at h1
    simp only [Instr.lookup, Sem.run_bind, run_underlying under100, Result.andThen_ok, MapKept.run_getObj_map hb, MapKept.run_checkKey under9' hk, MapKept.run_findKey under9' h1, Sem.run_pure, h3]
    rfl
theorem upd_run {es : Array MapEntry} {clk b : Nat} {w : World} {l : AL} (s : ByteArray) (v : Int) (he : es.toList.map ent = encA l) (hb : w.heap[b]? = some (.map es clk)) : ∃ es' clk', es'.toList.map ent = encA (putS s v l) ∧ (Instr.mapUpdate 100 (.map (some b)) (.string s) (.int .i64 v)).run Tryz.prog w = .ok () (w.putObj b (.map es' clk')) := by
  have h1 := find_is s es.toList l 0 he
  have hk : MapKept.IsKey .string (.string s) := trivial
  rcases pos_is s v l 0 with ⟨h2, _, h3⟩ | ⟨j, c, h2, _, h4, h3⟩
  · rw [h2] at h1
    refine ⟨es.push ⟨.string s, .int .i64 v, clk⟩, clk + 1, ?_, ?_⟩
    · rw [Array.toList_push, List.map_append, he, h3, encA, encA, List.map_append]; rfl
    · simp only [Instr.mapUpdate, Sem.run_bind, run_underlying under100, Result.andThen_ok, MapKept.run_getObj_map hb, MapKept.run_checkKey under9' hk, MapKept.run_findKey under9' h1, MapKept.run_setObj_map _ hb]
      rfl
  · rw [h2, Nat.zero_add] at h1
    have hlen : es.toList.length = l.length := by
      have := congrArg List.length he
      rw [List.length_map, encA, List.length_map] at this; exact this
    have hj : j < es.size := by
      have := (List.getElem?_eq_some_iff.1 h4).1
      rw [← Array.length_toList]; omega
    have hkey : ∃ e, es[j]? = some e ∧ e.key = .string s := by
      refine ⟨es[j], Array.getElem?_eq_getElem hj, ?_⟩
      have h5 : (es.toList.map ent)[j]? = (encA l)[j]? := by rw [he]
      rw [List.getElem?_map, encA, List.getElem?_map, h4, Array.getElem?_toList, Array.getElem?_eq_getElem hj] at h5
      exact congrArg Prod.fst (Option.some.inj h5)
    obtain ⟨e, he1, he2⟩ := hkey
    refine ⟨es.modify j fun e => { e with key := .string s, val := .int .i64 v }, clk, ?_, ?_⟩
    · rw [h3]
      refine List.ext_getElem? fun k => ?_
      have h5 : (es.toList.map ent)[k]? = (encA l)[k]? := by rw [he]
      rw [List.getElem?_map, encA, List.getElem?_map] at h5 ⊢
      rw [Array.getElem?_toList, Array.getElem?_modify]
      rw [Array.getElem?_toList] at h5
      by_cases e0 : j = k
      · subst e0
        rw [if_pos rfl, he1, List.getElem?_set_self (by rw [← hlen, Array.length_toList]; exact hj)]; rfl
      · rw [if_neg e0, List.getElem?_set_ne e0]; exact h5
    · simp only [Instr.mapUpdate, Sem.run_bind, run_underlying under100, Result.andThen_ok, MapKept.run_getObj_map hb, MapKept.run_checkKey under9' hk, MapKept.run_findKey under9' h1, he1, Option.map_some, Option.getD_some, he2, MapKept.run_keyThatStays hk, MapKept.run_setObj_map _ hb]
      rfl
end Go.Proofs.YtlchjjchgebfiaaGreatDoor
