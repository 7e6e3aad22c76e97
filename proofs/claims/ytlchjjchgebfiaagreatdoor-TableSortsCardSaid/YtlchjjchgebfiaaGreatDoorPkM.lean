/- The stable sort of rows. -/
import Derived.Test.YtlchjjchgebfiaaGreatDoorPkL

namespace Go.Proofs.YtlchjjchgebfiaaGreatDoor
open Go.RowKit Go.Dl Go.Dl.Stb
attribute [local irreducible] Tri SCall TSem ECall Drawn DFun QSem PSem PCall GCall MCall Round Go.Dl.Weak dloadE OW DWl Tells IntKind.wrap Retold ESem
theorem insIn_cl {n a : Nat} {lt : Nat → Nat → Bool} : ∀ (j : Nat) (f : Nat → Nat), j < n → Cl n f → Cl n (insIn lt a j f)
  | 0, _, _, h => h
  | j + 1, f, hj, h => by
    rw [insIn]
    split
    · exact insIn_cl j _ (by omega) (h.swf hj (by omega))
    · exact h
theorem insOut_cl {n a : Nat} {lt : Nat → Nat → Bool} : ∀ (k i : Nat) (f : Nat → Nat), i + k ≤ n → Cl n f → Cl n (insOut lt a k i f)
  | 0, _, _, _, h => h
  | k + 1, i, f, hk, h => insOut_cl k (i + 1) _ (by omega) (insIn_cl i f (by omega) h)
theorem insF_cl {n a b : Nat} {lt : Nat → Nat → Bool} {f : Nat → Nat} (hb : b ≤ n) (h : Cl n f) : Cl n (insF lt a b f) := by
  unfold insF
  rcases Nat.lt_or_ge b (a + 1) with e | e
  · rw [show b - (a + 1) = 0 by omega]; exact h
  · exact insOut_cl _ _ _ (by omega) h
theorem stB_t {lt : Nat → Nat → Bool} {n k a : Nat} {g : Nat → Nat} (c : a + 20 ≤ n) : stB lt n (k + 1) a g = stB lt n k (a + 20) (insF lt a (a + 20) g) := by rw [stB, if_pos c]
theorem stB_f {lt : Nat → Nat → Bool} {n k a : Nat} {g : Nat → Nat} (c : ¬ a + 20 ≤ n) : stB lt n (k + 1) a g = insF lt a n g := by rw [stB, if_neg c]
theorem stM_t {lt : Nat → Nat → Bool} {n bs k a : Nat} {g : Nat → Nat} (c : a + 2 * bs ≤ n) : Stb.stM lt n bs (k + 1) a g = Stb.stM lt n bs k (a + 2 * bs) (symF lt (2 * bs) a (a + bs) (a + 2 * bs) g) := by rw [Stb.stM, if_pos c]
theorem stM_f {lt : Nat → Nat → Bool} {n bs k a : Nat} {g : Nat → Nat} (c : ¬ a + 2 * bs ≤ n) (d : a + bs < n) : Stb.stM lt n bs (k + 1) a g = symF lt (n - a) a (a + bs) n g := by rw [Stb.stM, if_neg c, if_pos d]
theorem stM_e {lt : Nat → Nat → Bool} {n bs k a : Nat} {g : Nat → Nat} (c : ¬ a + 2 * bs ≤ n) (d : ¬ a + bs < n) : Stb.stM lt n bs (k + 1) a g = g := by rw [Stb.stM, if_neg c, if_neg d]
theorem stL_t {lt : Nat → Nat → Bool} {n k bs : Nat} {g : Nat → Nat} (c : bs < n) : stL lt n (k + 1) bs g = stL lt n k (2 * bs) (Stb.stM lt n bs (n + 1) 0 g) := by rw [stL, if_pos c]
theorem stL_f {lt : Nat → Nat → Bool} {n k bs : Nat} {g : Nat → Nat} (c : ¬ bs < n) : stL lt n (k + 1) bs g = g := by rw [stL, if_neg c]
theorem le_t {x n : Nat} (c : x ≤ n) (h : decide ((x : Int) ≤ (n : Int)) = false) : False := by have := of_decide_eq_false h; omega
theorem le_f {x n : Nat} (c : ¬ x ≤ n) (h : decide ((x : Int) ≤ (n : Int)) = true) : False := by have := of_decide_eq_true h; omega
theorem w20 {a : Nat} (h : a ≤ 50000) : IntKind.i64.wrap (((a + 20 : Nat) : Int) + 20) = ((a + 20 + 20 : Nat) : Int) := by rw [IntKind.wrap_i64]; omega
theorem w2 {x : Nat} (h : x ≤ 50000) : IntKind.i64.wrap (2 * (x : Int)) = ((2 * x : Nat) : Int) := by rw [IntKind.wrap_i64]; omega
theorem w2' {x : Nat} (h : x ≤ 50000) : IntKind.i64.wrap ((x : Int) * 2) = ((2 * x : Nat) : Int) := by rw [IntKind.wrap_i64]; omega
theorem w2a {a x : Nat} (h : x ≤ 50000) (h2 : a ≤ 50000) : IntKind.i64.wrap (((a + 2 * x : Nat) : Int) + IntKind.i64.wrap (2 * (x : Int))) = ((a + 2 * x + 2 * x : Nat) : Int) := by rw [w2 h, IntKind.wrap_i64]; omega
theorem w2z {x : Nat} (h : x ≤ 50000) : IntKind.i64.wrap (2 * (x : Int)) = ((0 + 2 * x : Nat) : Int) := by rw [w2 h]; omega
theorem ws_t {a x n : Nat} (ha : a + x ≤ 100000) (c : a + x < n) (h : decide (IntKind.i64.wrap ((a : Int) + (x : Int)) < (n : Int)) = false) : False := by rw [sx_w ha] at h; have := of_decide_eq_false h; omega
theorem ws_f {a x n : Nat} (ha : a + x ≤ 100000) (c : ¬ a + x < n) (h : decide (IntKind.i64.wrap ((a : Int) + (x : Int)) < (n : Int)) = true) : False := by rw [sx_w ha] at h; have := of_decide_eq_true h; omega
def b1St (ks : List Int) (rows : List (List ByteArray)) (n : Nat) (p : Nat × (Nat → Nat)) : St := ⟨⟨3, []⟩, tmOf [(0, .arr 0 n), (1, int1 n), (2, .clo (.func 63) [] [.ref 1 0]), (6, int1 20), (7, int1 p.1), (8, int1 (p.1 + 20 : Nat))], .of (stO ks rows n p.2) 3⟩
def b2St (ks : List Int) (rows : List (List ByteArray)) (n : Nat) (p : Nat × (Nat → Nat)) : St := ⟨⟨3, []⟩, tmOf [(0, .arr 0 n), (1, int1 n), (2, .clo (.func 63) [] [.ref 1 0]), (6, int1 p.1)], .of (stO ks rows n p.2) 3⟩
def b3St (ks : List Int) (rows : List (List ByteArray)) (n bs : Nat) (p : Nat × (Nat → Nat)) : St := ⟨⟨3, []⟩, tmOf [(0, .arr 0 n), (1, int1 n), (2, .clo (.func 63) [] [.ref 1 0]), (6, int1 bs), (7, int1 p.1), (8, int1 (p.1 + 2 * bs : Nat))], .of (stO ks rows n p.2) 3⟩
attribute [local irreducible] rwF chC insF symF stB Stb.stM stL
set_option maxRecDepth 20000 in
set_option maxHeartbeats 4000000 in
theorem stab94_S {ks : List Int} {rows : List (List ByteArray)} {n : Nat} (hS : SrtOk ks rows n) {f : Nat → Nat} (hf : Cl n f) :
    SCall Tryz.prog 94 [.arr 0 n, int1 n, .clo (.func 63) [] [.ref 1 0]] (.of (stO ks rows n f) 3) fun r' s' => r' = .tup [] ∧ s' = .of (stO ks rows n (stL (ltK ks rows) n (n + 1) 20 (stB (ltK ks rows) n (n + 1) 0 f))) 3 := by
  have hn := hS.n
  refine SCall.retell (SCall.run Tryz.func94 rfl (Nat.le_of_ble_eq_true rfl) (by kernel_rfl) ?_)
  repeat' (first | with_reducible rfl | ((conv => whnf); first | refine And.intro ?_ ?_ | (intro h; first | with_reducible exact tf_no h | with_reducible exact ft_no h | exact Bool.noConfusion h | with_reducible exact h | (have ht : true = true := h; clear ht h) | skip) | ((with_reducible refine ECall.mark ?_); first | refine ECall.only ?_ (fun h => nomatch h) | refine ECall.only ?_ ?_) | ((with_reducible refine Drawn.mark ?_); first | refine Drawn.quiet (by kernel_rfl) ?_) | refine dcell_ok rfl ?_ | refine AppC.new ?_))
  all_goals first | (with_reducible refine enters_mark ?_; kernel_rfl) | (with_reducible refine boolT_mark ?_; kernel_rfl) | rfl | trivial | assumption | exact Nat.le_of_ble_eq_true rfl | (show entersB _ _ = true; kernel_rfl) | exact DW.same _ rfl | exact DW.ref _ _ _ rfl | exact DW.arr _ _ _ rfl | refine DW.int ?_ | refine dvb ?_ | refine dvi ?_ | exact OW.cells rfl rfl (DWl.same rfl) | exact Nat.zero_le _ | omega | skip
  all_goals repeat' (first | refine OW.cells rfl rfl ?_ | exact DW.nilArr _ rfl | refine DWl.cons ?_ ?_ | exact DWl.nil | exact DW.same _ rfl | exact DW.ref _ _ _ rfl | exact DW.arr _ _ _ rfl | exact DW.sub _ _ _ _ rfl | exact DW.mo _ _ rfl | exact DW.nilLst _ | refine DW.aggl ?_ | refine DW.tupl ?_ | refine DW.clol ?_ ?_)
  all_goals try ((conv => whnf); with_reducible first | refine Round.mark ?_ | refine Tells.mark ?_ | refine Retold.mark ?_)
  all_goals try first | (show (_ : Bool) = _; simp_all; done) | (show (_ : Int) < _; simp at *; omega) | (show (_ : Int) ≤ _; simp at *; omega) | (show (_ : Nat) < _; simp at *; omega) | (show (_ : Nat) ≤ _; simp at *; omega)
  conv => whnf
  refine Tri.loop (b1St ks rows n) (fun p => p.1 ≤ n ∧ Cl n p.2 ∧ ∃ k, n - p.1 < k ∧ stB (ltK ks rows) n k p.1 p.2 = stB (ltK ks rows) n (n + 1) 0 f) (fun p => n - p.1) (0, f) (by kernel_rfl) (Go.Dl.Weak.list [] [] (by kernel_rfl) ?_ ?_) ⟨Nat.zero_le _, hf, n + 1, by show n - 0 < n + 1; omega, rfl⟩ ?_
  iterate 2 · repeat' (first | rfl | exact DWl.eq rfl (chC_all _) | exact DWl.eq rfl (rwF_all _ _ _) | exact DW.same _ rfl | exact DW.ref _ _ _ rfl | exact DW.arr _ _ _ rfl | exact OW.cells rfl rfl (DWl.same rfl) | refine OW.cells rfl rfl ?_ | refine DWl.cons ?_ ?_ | exact DWl.nil | exact DW.nilArr _ rfl | exact DW.nilLst _ | refine DW.clol ?_ ?_ | refine DW.aggl ?_ | refine DW.tupl ?_ | refine DW.int ?_ | refine DW.bool ?_ | refine DW.str ?_ | refine DW.arrE rfl ?_ | ((conv => whnf); first | refine And.intro ?_ ?_ | trivial))
  intro ⟨a, g⟩ ⟨ha, hg, hk⟩
  have ha : a ≤ n := ha
  have hg : Cl n g := hg
  obtain ⟨k, hk, he⟩ := hk
  have hk : n - a < k := hk
  have he : stB (ltK ks rows) n k a g = stB (ltK ks rows) n (n + 1) 0 f := he
  obtain ⟨k, rfl⟩ : ∃ c, k = c + 1 := ⟨k - 1, by omega⟩
  show dcode _ _ _ _ (b1St ks rows n (a, g)) _
  by_cases c : a + 20 ≤ n
  · repeat' (first | with_reducible rfl | ((conv => whnf); first | refine And.intro ?_ ?_ | (intro h; first | with_reducible exact tf_no h | with_reducible exact ft_no h | exact Bool.noConfusion h | with_reducible exact h | (exfalso; exact le_t c h) | (have ht : true = true := h; clear ht h) | skip) | ((with_reducible refine SCall.mark ?_); first | refine SCall.at [0, 1, 2] (fun _ => stO ks rows n (insF (ltK ks rows) a (a + 20) g)) (fun _ => .tup []) 0 (ins122_S hS ha c hg) (by kernel_rfl) ⟨OW.cells rfl rfl (DWl.eq rfl (rwF_all _ _ _)), OW.cells rfl rfl (DWl.cons (DW.arr _ _ _ rfl) DWl.nil), OW.cells rfl rfl (DWl.eq rfl (chC_all _)), trivial⟩ (DWl.cons (DW.arr _ _ _ rfl) (DWl.cons (DW.same _ rfl) (DWl.cons (DW.same _ rfl) (DWl.cons (DW.clol DWl.nil (DWl.cons (DW.ref _ _ _ rfl) DWl.nil)) DWl.nil)))) (DW.tupl DWl.nil) ⟨OW.cells rfl rfl (DWl.eq rfl (rwF_all _ _ _)), OW.cells rfl rfl (DWl.cons (DW.arr _ _ _ rfl) DWl.nil), OW.cells rfl rfl (DWl.eq rfl (chC_all _)), trivial⟩ ?_) | ((with_reducible refine ECall.mark ?_); first | refine ECall.only ?_ (fun h => nomatch h) | refine ECall.only ?_ ?_) | ((with_reducible refine Drawn.mark ?_); first | refine Drawn.quiet (by kernel_rfl) ?_) | refine dcell_ok rfl ?_ | refine AppC.new ?_))
    all_goals try ((conv => whnf); with_reducible refine Round.mark ?_)
    all_goals try first | ((with_reducible show Option.isSome (slElem _ _) = true); kernel_rfl) | ((with_reducible show slElem _ _ = some _); kernel_rfl) | ((with_reducible refine enters_mark ?_); kernel_rfl) | (with_reducible assumption) | ((with_reducible show List.all _ DV.one = true); rfl) | ((with_reducible show (_ : Nat) = _); rfl) | ((with_reducible show (_ == true) = true); simpa using h) | ((with_reducible show (_ : Nat) ≤ _); exact Nat.le_of_ble_eq_true rfl) | ((with_reducible show (_ : Int) ≤ _); first | omega | decide) | ((with_reducible show (_ : Int) < _); first | omega | decide) | ((with_reducible show (_ : Nat) < _); omega) | ((with_reducible show (_ : Nat) ≤ _); omega)
    refine Round.go (fun _ => (a + 20, insF (ltK ks rows) a (a + 20) g)) ⟨c, insF_cl c hg, k, by show n - (a + 20) < k; omega, (stB_t c).symm.trans he⟩ (by show n - (a + 20) < n - a; omega) (Weak.list [] [] (by kernel_rfl) ?_ ?_)
    iterate 2 · repeat' (first | exact w20 (by omega) | exact DWl.eq rfl (chC_all _) | exact DWl.eq rfl (rwF_all _ _ _) | exact DW.same _ rfl | exact DW.ref _ _ _ rfl | exact DW.arr _ _ _ rfl | exact OW.cells rfl rfl (DWl.same rfl) | refine OW.cells rfl rfl ?_ | refine DWl.cons ?_ ?_ | exact DWl.nil | exact DW.nilArr _ rfl | exact DW.nilLst _ | refine DW.clol ?_ ?_ | refine DW.aggl ?_ | refine DW.tupl ?_ | refine DW.int ?_ | refine DW.bool ?_ | refine DW.str ?_ | refine DW.arrE rfl ?_ | ((conv => whnf); first | refine And.intro ?_ ?_ | trivial))
  · rw [stB_f c] at he
    generalize hG : stB (ltK ks rows) n (n + 1) 0 f = G at he
    have hG2 : Cl n G := by rw [← he]; exact insF_cl (Nat.le_refl _) hg
    repeat' (first | with_reducible rfl | ((conv => whnf); first | refine And.intro ?_ ?_ | (intro h; first | with_reducible exact tf_no h | with_reducible exact ft_no h | exact Bool.noConfusion h | with_reducible exact h | (exfalso; exact le_f c h) | (have ht : true = true := h; clear ht h) | skip) | ((with_reducible refine SCall.mark ?_); first | refine SCall.at [0, 1, 2] (fun _ => stO ks rows n (insF (ltK ks rows) a n g)) (fun _ => .tup []) 0 (ins122_S hS ha (Nat.le_refl _) hg) (by kernel_rfl) ⟨OW.cells rfl rfl (DWl.eq rfl (rwF_all _ _ _)), OW.cells rfl rfl (DWl.cons (DW.arr _ _ _ rfl) DWl.nil), OW.cells rfl rfl (DWl.eq rfl (chC_all _)), trivial⟩ (DWl.cons (DW.arr _ _ _ rfl) (DWl.cons (DW.same _ rfl) (DWl.cons (DW.same _ rfl) (DWl.cons (DW.clol DWl.nil (DWl.cons (DW.ref _ _ _ rfl) DWl.nil)) DWl.nil)))) (DW.tupl DWl.nil) ⟨OW.cells rfl rfl (DWl.eq rfl (rwF_all _ _ _)), OW.cells rfl rfl (DWl.cons (DW.arr _ _ _ rfl) DWl.nil), OW.cells rfl rfl (DWl.eq rfl (chC_all _)), trivial⟩ ?_) | ((with_reducible refine ECall.mark ?_); first | refine ECall.only ?_ (fun h => nomatch h) | refine ECall.only ?_ ?_) | ((with_reducible refine Drawn.mark ?_); first | refine Drawn.quiet (by kernel_rfl) ?_) | refine dcell_ok rfl ?_ | refine AppC.new ?_))
    all_goals try first | ((with_reducible show Option.isSome (slElem _ _) = true); kernel_rfl) | ((with_reducible show slElem _ _ = some _); kernel_rfl) | ((with_reducible refine enters_mark ?_); kernel_rfl) | (with_reducible assumption) | ((with_reducible show List.all _ DV.one = true); rfl) | ((with_reducible show (_ : Nat) = _); rfl) | ((with_reducible show (_ == true) = true); simpa using h) | ((with_reducible show (_ : Nat) ≤ _); exact Nat.le_of_ble_eq_true rfl) | ((with_reducible show (_ : Int) ≤ _); first | omega | decide) | ((with_reducible show (_ : Int) < _); first | omega | decide) | ((with_reducible show (_ : Nat) < _); omega) | ((with_reducible show (_ : Nat) ≤ _); omega)
    rw [he]
    conv => whnf
    refine Tri.loop (b2St ks rows n) (fun p => 20 ≤ p.1 ∧ (p.1 = 20 ∨ p.1 ≤ 2 * n) ∧ Cl n p.2 ∧ ∃ k, n - p.1 < k ∧ stL (ltK ks rows) n k p.1 p.2 = stL (ltK ks rows) n (n + 1) 20 G) (fun p => n - p.1) (20, G) (by kernel_rfl) (Go.Dl.Weak.list [] [] (by kernel_rfl) ?_ ?_) ⟨Nat.le_refl _, .inl rfl, hG2, n + 1, by show n - 20 < n + 1; omega, rfl⟩ ?_
    iterate 2 · repeat' (first | rfl | exact DWl.eq rfl (chC_all _) | exact DWl.eq rfl (rwF_all _ _ _) | exact DW.same _ rfl | exact DW.ref _ _ _ rfl | exact DW.arr _ _ _ rfl | exact OW.cells rfl rfl (DWl.same rfl) | refine OW.cells rfl rfl ?_ | refine DWl.cons ?_ ?_ | exact DWl.nil | exact DW.nilArr _ rfl | exact DW.nilLst _ | refine DW.clol ?_ ?_ | refine DW.aggl ?_ | refine DW.tupl ?_ | refine DW.int ?_ | refine DW.bool ?_ | refine DW.str ?_ | refine DW.arrE rfl ?_ | ((conv => whnf); first | refine And.intro ?_ ?_ | trivial))
    intro ⟨bs, g2⟩ ⟨hb0, hb1, hg2, hk2⟩
    have hb0 : 20 ≤ bs := hb0
    have hb1 : bs = 20 ∨ bs ≤ 2 * n := hb1
    have hg2 : Cl n g2 := hg2
    obtain ⟨k2, hk2, he2⟩ := hk2
    have hk2 : n - bs < k2 := hk2
    have he2 : stL (ltK ks rows) n k2 bs g2 = stL (ltK ks rows) n (n + 1) 20 G := he2
    obtain ⟨k2, rfl⟩ : ∃ c, k2 = c + 1 := ⟨k2 - 1, by omega⟩
    show dcode _ _ _ _ (b2St ks rows n (bs, g2)) _
    by_cases cb : bs < n
    · have hbs : bs ≤ 50000 := by omega
      rw [stL_t cb] at he2
      generalize hH : Stb.stM (ltK ks rows) n bs (n + 1) 0 g2 = H at he2
      repeat' (first | with_reducible rfl | ((conv => whnf); first | refine And.intro ?_ ?_ | (intro h; first | with_reducible exact tf_no h | with_reducible exact ft_no h | exact Bool.noConfusion h | with_reducible exact h | (exfalso; exact dn_t cb (show decide (bs < n) = false from decide_eq_false (Nat.not_lt_of_le (ge_int h)))) | (have ht : true = true := h; clear ht h) | skip) | ((with_reducible refine ECall.mark ?_); first | refine ECall.only ?_ (fun h => nomatch h) | refine ECall.only ?_ ?_) | ((with_reducible refine Drawn.mark ?_); first | refine Drawn.quiet (by kernel_rfl) ?_) | refine dcell_ok rfl ?_ | refine AppC.new ?_))
      conv => whnf
      refine Tri.loop (b3St ks rows n bs) (fun p => p.1 ≤ n ∧ Cl n p.2 ∧ ∃ k, n - p.1 < k ∧ Stb.stM (ltK ks rows) n bs k p.1 p.2 = H) (fun p => n - p.1) (0, g2) (by kernel_rfl) (Go.Dl.Weak.list [] [] (by kernel_rfl) ?_ ?_) ⟨Nat.zero_le _, hg2, n + 1, by show n - 0 < n + 1; omega, hH⟩ ?_
      iterate 2 · repeat' (first | exact w2z hbs | exact DWl.eq rfl (chC_all _) | exact DWl.eq rfl (rwF_all _ _ _) | exact DW.same _ rfl | exact DW.ref _ _ _ rfl | exact DW.arr _ _ _ rfl | exact OW.cells rfl rfl (DWl.same rfl) | refine OW.cells rfl rfl ?_ | refine DWl.cons ?_ ?_ | exact DWl.nil | exact DW.nilArr _ rfl | exact DW.nilLst _ | refine DW.clol ?_ ?_ | refine DW.aggl ?_ | refine DW.tupl ?_ | refine DW.int ?_ | refine DW.bool ?_ | refine DW.str ?_ | refine DW.arrE rfl ?_ | ((conv => whnf); first | refine And.intro ?_ ?_ | trivial))
      intro ⟨a3, g3⟩ ⟨ha3, hg3, hk3⟩
      have ha3 : a3 ≤ n := ha3
      have hg3 : Cl n g3 := hg3
      obtain ⟨k3, hk3, he3⟩ := hk3
      have hk3 : n - a3 < k3 := hk3
      have he3 : Stb.stM (ltK ks rows) n bs k3 a3 g3 = H := he3
      obtain ⟨k3, rfl⟩ : ∃ c, k3 = c + 1 := ⟨k3 - 1, by omega⟩
      have hax : a3 + bs ≤ 100000 := by omega
      show dcode _ _ _ _ (b3St ks rows n bs (a3, g3)) _
      by_cases c3 : a3 + 2 * bs ≤ n
      · repeat' (first | with_reducible rfl | ((conv => whnf); first | refine And.intro ?_ ?_ | (intro h; first | with_reducible exact tf_no h | with_reducible exact ft_no h | exact Bool.noConfusion h | with_reducible exact h | (exfalso; exact le_t c3 h) | (have ht : true = true := h; clear ht h) | skip) | ((with_reducible refine SCall.mark ?_); first | refine SCall.at [0, 1, 2] (fun _ => stO ks rows n (symF (ltK ks rows) (2 * bs) a3 (a3 + bs) (a3 + 2 * bs) g3)) (fun _ => .tup []) 0 (sym123_S hS (2 * bs) a3 (a3 + bs) (a3 + 2 * bs) g3 (by omega) (by omega) c3 hg3 (by omega)) (by kernel_rfl) ⟨OW.cells rfl rfl (DWl.eq rfl (rwF_all _ _ _)), OW.cells rfl rfl (DWl.cons (DW.arr _ _ _ rfl) DWl.nil), OW.cells rfl rfl (DWl.eq rfl (chC_all _)), trivial⟩ (DWl.cons (DW.arr _ _ _ rfl) (DWl.cons (DW.same _ rfl) (DWl.cons (DW.int (sx_w hax)) (DWl.cons (DW.same _ rfl) (DWl.cons (DW.clol DWl.nil (DWl.cons (DW.ref _ _ _ rfl) DWl.nil)) DWl.nil))))) (DW.tupl DWl.nil) ⟨OW.cells rfl rfl (DWl.eq rfl (rwF_all _ _ _)), OW.cells rfl rfl (DWl.cons (DW.arr _ _ _ rfl) DWl.nil), OW.cells rfl rfl (DWl.eq rfl (chC_all _)), trivial⟩ ?_) | ((with_reducible refine ECall.mark ?_); first | refine ECall.only ?_ (fun h => nomatch h) | refine ECall.only ?_ ?_) | ((with_reducible refine Drawn.mark ?_); first | refine Drawn.quiet (by kernel_rfl) ?_) | refine dcell_ok rfl ?_ | refine AppC.new ?_))
        all_goals try ((conv => whnf); with_reducible refine Round.mark ?_)
        all_goals try first | ((with_reducible show Option.isSome (slElem _ _) = true); kernel_rfl) | ((with_reducible show slElem _ _ = some _); kernel_rfl) | ((with_reducible refine enters_mark ?_); kernel_rfl) | (with_reducible assumption) | ((with_reducible show List.all _ DV.one = true); rfl) | ((with_reducible show (_ : Nat) = _); rfl) | ((with_reducible show (_ == true) = true); simpa using h) | ((with_reducible show (_ : Nat) ≤ _); exact Nat.le_of_ble_eq_true rfl) | ((with_reducible show (_ : Int) ≤ _); first | omega | decide) | ((with_reducible show (_ : Int) < _); first | omega | decide) | ((with_reducible show (_ : Nat) < _); omega) | ((with_reducible show (_ : Nat) ≤ _); omega)
        refine Round.go (fun _ => (a3 + 2 * bs, symF (ltK ks rows) (2 * bs) a3 (a3 + bs) (a3 + 2 * bs) g3)) ⟨c3, symF_cl (2 * bs) a3 (a3 + bs) (a3 + 2 * bs) g3 (by omega) (by omega) c3 hg3, k3, by show n - (a3 + 2 * bs) < k3; omega, (stM_t c3).symm.trans he3⟩ (by show n - (a3 + 2 * bs) < n - a3; omega) (Weak.list [] [] (by kernel_rfl) ?_ ?_)
        iterate 2 · repeat' (first | exact w2a hbs (by omega) | exact DWl.eq rfl (chC_all _) | exact DWl.eq rfl (rwF_all _ _ _) | exact DW.same _ rfl | exact DW.ref _ _ _ rfl | exact DW.arr _ _ _ rfl | exact OW.cells rfl rfl (DWl.same rfl) | refine OW.cells rfl rfl ?_ | refine DWl.cons ?_ ?_ | exact DWl.nil | exact DW.nilArr _ rfl | exact DW.nilLst _ | refine DW.clol ?_ ?_ | refine DW.aggl ?_ | refine DW.tupl ?_ | refine DW.int ?_ | refine DW.bool ?_ | refine DW.str ?_ | refine DW.arrE rfl ?_ | ((conv => whnf); first | refine And.intro ?_ ?_ | trivial))
      · by_cases d3 : a3 + bs < n
        · have e3 : symF (ltK ks rows) (n - a3) a3 (a3 + bs) n g3 = H := (stM_f c3 d3).symm.trans he3
          have hH2 : Cl n H := by rw [← e3]; exact symF_cl (n - a3) a3 (a3 + bs) n g3 (by omega) d3 (Nat.le_refl _) hg3
          repeat' (first | with_reducible rfl | ((conv => whnf); first | refine And.intro ?_ ?_ | (intro h; first | with_reducible exact tf_no h | with_reducible exact ft_no h | exact Bool.noConfusion h | with_reducible exact h | (exfalso; exact le_f c3 h) | (exfalso; exact ws_t hax d3 h) | (have ht : true = true := h; clear ht h) | skip) | ((with_reducible refine SCall.mark ?_); first | refine SCall.at [0, 1, 2] (fun _ => stO ks rows n (symF (ltK ks rows) (n - a3) a3 (a3 + bs) n g3)) (fun _ => .tup []) 0 (sym123_S hS (n - a3) a3 (a3 + bs) n g3 (by omega) d3 (Nat.le_refl _) hg3 (Nat.le_refl _)) (by kernel_rfl) ⟨OW.cells rfl rfl (DWl.eq rfl (rwF_all _ _ _)), OW.cells rfl rfl (DWl.cons (DW.arr _ _ _ rfl) DWl.nil), OW.cells rfl rfl (DWl.eq rfl (chC_all _)), trivial⟩ (DWl.cons (DW.arr _ _ _ rfl) (DWl.cons (DW.same _ rfl) (DWl.cons (DW.int (sx_w hax)) (DWl.cons (DW.same _ rfl) (DWl.cons (DW.clol DWl.nil (DWl.cons (DW.ref _ _ _ rfl) DWl.nil)) DWl.nil))))) (DW.tupl DWl.nil) ⟨OW.cells rfl rfl (DWl.eq rfl (rwF_all _ _ _)), OW.cells rfl rfl (DWl.cons (DW.arr _ _ _ rfl) DWl.nil), OW.cells rfl rfl (DWl.eq rfl (chC_all _)), trivial⟩ ?_) | ((with_reducible refine ECall.mark ?_); first | refine ECall.only ?_ (fun h => nomatch h) | refine ECall.only ?_ ?_) | ((with_reducible refine Drawn.mark ?_); first | refine Drawn.quiet (by kernel_rfl) ?_) | refine dcell_ok rfl ?_ | refine AppC.new ?_))
          all_goals try ((conv => whnf); with_reducible refine Round.mark ?_)
          all_goals try first | ((with_reducible show Option.isSome (slElem _ _) = true); kernel_rfl) | ((with_reducible show slElem _ _ = some _); kernel_rfl) | ((with_reducible refine enters_mark ?_); kernel_rfl) | (with_reducible assumption) | ((with_reducible show List.all _ DV.one = true); rfl) | ((with_reducible show (_ : Nat) = _); rfl) | ((with_reducible show (_ == true) = true); simpa using h) | ((with_reducible show (_ : Nat) ≤ _); exact Nat.le_of_ble_eq_true rfl) | ((with_reducible show (_ : Int) ≤ _); first | omega | decide) | ((with_reducible show (_ : Int) < _); first | omega | decide) | ((with_reducible show (_ : Nat) < _); omega) | ((with_reducible show (_ : Nat) ≤ _); omega)
          refine Round.go (fun _ => (2 * bs, H)) ⟨by show 20 ≤ 2 * bs; omega, .inr (by show 2 * bs ≤ 2 * n; omega), hH2, k2, by show n - 2 * bs < k2; omega, he2⟩ (by show n - 2 * bs < n - bs; omega) (Weak.list [] [] (by kernel_rfl) ?_ ?_)
          iterate 2 · repeat' (first | exact w2' hbs | exact DWl.eq rfl (chC_all _) | exact DWl.eq (congrArg (rwF rows n) e3) (rwF_all _ _ _) | exact DW.same _ rfl | exact DW.ref _ _ _ rfl | exact DW.arr _ _ _ rfl | exact OW.cells rfl rfl (DWl.same rfl) | refine OW.cells rfl rfl ?_ | refine DWl.cons ?_ ?_ | exact DWl.nil | exact DW.nilArr _ rfl | exact DW.nilLst _ | refine DW.clol ?_ ?_ | refine DW.aggl ?_ | refine DW.tupl ?_ | refine DW.int ?_ | refine DW.bool ?_ | refine DW.str ?_ | refine DW.arrE rfl ?_ | ((conv => whnf); first | refine And.intro ?_ ?_ | trivial))
        · have e3 : g3 = H := (stM_e c3 d3).symm.trans he3
          have hH2 : Cl n H := by rw [← e3]; exact hg3
          repeat' (first | with_reducible rfl | ((conv => whnf); first | refine And.intro ?_ ?_ | (intro h; first | with_reducible exact tf_no h | with_reducible exact ft_no h | exact Bool.noConfusion h | with_reducible exact h | (exfalso; exact le_f c3 h) | (exfalso; exact ws_f hax d3 h) | (have ht : true = true := h; clear ht h) | skip) | ((with_reducible refine ECall.mark ?_); first | refine ECall.only ?_ (fun h => nomatch h) | refine ECall.only ?_ ?_) | ((with_reducible refine Drawn.mark ?_); first | refine Drawn.quiet (by kernel_rfl) ?_) | refine dcell_ok rfl ?_ | refine AppC.new ?_))
          all_goals try ((conv => whnf); with_reducible refine Round.mark ?_)
          all_goals try first | ((with_reducible show Option.isSome (slElem _ _) = true); kernel_rfl) | ((with_reducible show slElem _ _ = some _); kernel_rfl) | ((with_reducible refine enters_mark ?_); kernel_rfl) | (with_reducible assumption) | ((with_reducible show List.all _ DV.one = true); rfl) | ((with_reducible show (_ : Nat) = _); rfl) | ((with_reducible show (_ == true) = true); simpa using h) | ((with_reducible show (_ : Nat) ≤ _); exact Nat.le_of_ble_eq_true rfl) | ((with_reducible show (_ : Int) ≤ _); first | omega | decide) | ((with_reducible show (_ : Int) < _); first | omega | decide) | ((with_reducible show (_ : Nat) < _); omega) | ((with_reducible show (_ : Nat) ≤ _); omega)
          refine Round.go (fun _ => (2 * bs, H)) ⟨by show 20 ≤ 2 * bs; omega, .inr (by show 2 * bs ≤ 2 * n; omega), hH2, k2, by show n - 2 * bs < k2; omega, he2⟩ (by show n - 2 * bs < n - bs; omega) (Weak.list [] [] (by kernel_rfl) ?_ ?_)
          iterate 2 · repeat' (first | exact w2' hbs | exact DWl.eq rfl (chC_all _) | exact DWl.eq (congrArg (rwF rows n) e3) (rwF_all _ _ _) | exact DW.same _ rfl | exact DW.ref _ _ _ rfl | exact DW.arr _ _ _ rfl | exact OW.cells rfl rfl (DWl.same rfl) | refine OW.cells rfl rfl ?_ | refine DWl.cons ?_ ?_ | exact DWl.nil | exact DW.nilArr _ rfl | exact DW.nilLst _ | refine DW.clol ?_ ?_ | refine DW.aggl ?_ | refine DW.tupl ?_ | refine DW.int ?_ | refine DW.bool ?_ | refine DW.str ?_ | refine DW.arrE rfl ?_ | ((conv => whnf); first | refine And.intro ?_ ?_ | trivial))
    · have e9 : rwF rows n g2 = rwF rows n (stL (ltK ks rows) n (n + 1) 20 G) := by rw [← he2, stL_f cb]
      repeat' (first | with_reducible rfl | ((conv => whnf); first | refine And.intro ?_ ?_ | (intro h; first | with_reducible exact tf_no h | with_reducible exact ft_no h | exact Bool.noConfusion h | with_reducible exact h | (exfalso; exact cb (lt_int h)) | (have ht : true = true := h; clear ht h) | skip) | ((with_reducible refine ECall.mark ?_); first | refine ECall.only ?_ (fun h => nomatch h) | refine ECall.only ?_ ?_) | ((with_reducible refine Drawn.mark ?_); first | refine Drawn.quiet (by kernel_rfl) ?_) | refine dcell_ok rfl ?_ | refine AppC.new ?_))
      all_goals try first | ((with_reducible show Option.isSome (slElem _ _) = true); kernel_rfl) | ((with_reducible show slElem _ _ = some _); kernel_rfl) | ((with_reducible refine enters_mark ?_); kernel_rfl) | (with_reducible assumption) | ((with_reducible show List.all _ DV.one = true); rfl) | ((with_reducible show (_ : Nat) = _); rfl) | ((with_reducible show (_ == true) = true); simpa using h) | ((with_reducible show (_ : Nat) ≤ _); exact Nat.le_of_ble_eq_true rfl) | ((with_reducible show (_ : Int) ≤ _); first | omega | decide) | ((with_reducible show (_ : Int) < _); first | omega | decide) | ((with_reducible show (_ : Nat) < _); omega) | ((with_reducible show (_ : Nat) ≤ _); omega)
      conv => whnf
      refine Retold.list [] [] (.tup []) (stO ks rows n (stL (ltK ks rows) n (n + 1) 20 G)) 3 (by kernel_rfl) ?_ ?_ ⟨rfl, rfl⟩
      iterate 2 · repeat' (first | exact DWl.eq rfl (chC_all _) | exact DWl.eq e9 (rwF_all _ _ _) | exact DW.same _ rfl | exact DW.ref _ _ _ rfl | exact DW.arr _ _ _ rfl | exact OW.cells rfl rfl (DWl.same rfl) | refine OW.cells rfl rfl ?_ | refine DWl.cons ?_ ?_ | exact DWl.nil | exact DW.nilArr _ rfl | exact DW.nilLst _ | refine DW.clol ?_ ?_ | refine DW.aggl ?_ | refine DW.tupl ?_ | refine DW.int ?_ | refine DW.bool ?_ | refine DW.str ?_ | refine DW.arrE rfl ?_ | ((conv => whnf); first | refine And.intro ?_ ?_ | trivial))
end Go.Proofs.YtlchjjchgebfiaaGreatDoor

namespace Go.Proofs.YtlchjjchgebfiaaGreatDoor
open Go.RowKit Go.Dl Go.Dl.Stb
attribute [local irreducible] Tri SCall TSem ECall Drawn DFun QSem PSem PCall GCall MCall Round Go.Dl.Weak dloadE OW DWl Tells IntKind.wrap Retold ESem
attribute [local irreducible] rwF chC stB stL stab
theorem stab_is (lt : Nat → Nat → Bool) (n : Nat) : stL lt n (n + 1) 20 (stB lt n (n + 1) 0 fun i => i) = stab lt n := by with_unfolding_all rfl
set_option maxRecDepth 20000 in
set_option maxHeartbeats 4000000 in
theorem sort62_G {ks : List Int} {rows : List (List ByteArray)} {n : Nat} (hS : SrtOk ks rows n) :
    SCall Tryz.prog 62 [.arr 0 n, .clo (.func 63) [] [.ref 1 0]] (.of (stO ks rows n fun i => i) 3) fun r' s' => r' = .tup [] ∧ s' = .of (stO ks rows n (stab (ltK ks rows) n)) 3 := by
  have hn := hS.n
  have hc := stab94_S hS (f := fun i => i) (fun i hi => hi)
  rw [stab_is] at hc
  refine SCall.retell (SCall.run Tryz.func62 rfl (Nat.le_of_ble_eq_true rfl) (by kernel_rfl) ?_)
  repeat' (first | with_reducible rfl | ((conv => whnf); first | refine And.intro ?_ ?_ | (intro h; first | with_reducible exact tf_no h | with_reducible exact ft_no h | exact Bool.noConfusion h | with_reducible exact h | (have ht : true = true := h; clear ht h) | skip) | ((with_reducible refine SCall.mark ?_); first | refine SCall.at [0, 1, 2] (fun _ => stO ks rows n (stab (ltK ks rows) n)) (fun _ => .tup []) 0 hc (by kernel_rfl) ⟨OW.cells rfl rfl (DWl.eq rfl (rwF_all _ _ _)), OW.cells rfl rfl (DWl.cons (DW.arr _ _ _ rfl) DWl.nil), OW.cells rfl rfl (DWl.eq rfl (chC_all _)), trivial⟩ (DWl.cons (DW.arr _ _ _ rfl) (DWl.cons (DW.same _ rfl) (DWl.cons (DW.clol DWl.nil (DWl.cons (DW.ref _ _ _ rfl) DWl.nil)) DWl.nil))) (DW.tupl DWl.nil) ⟨OW.cells rfl rfl (DWl.eq rfl (rwF_all _ _ _)), OW.cells rfl rfl (DWl.cons (DW.arr _ _ _ rfl) DWl.nil), OW.cells rfl rfl (DWl.eq rfl (chC_all _)), trivial⟩ ?_) | ((with_reducible refine ECall.mark ?_); first | refine ECall.only ?_ (fun h => nomatch h) | refine ECall.only ?_ ?_) | ((with_reducible refine Drawn.mark ?_); first | refine Drawn.quiet (by kernel_rfl) ?_) | refine dcell_ok rfl ?_ | refine AppC.new ?_))
  all_goals first | (with_reducible refine enters_mark ?_; kernel_rfl) | (with_reducible refine boolT_mark ?_; kernel_rfl) | rfl | trivial | assumption | exact Nat.le_of_ble_eq_true rfl | (show entersB _ _ = true; kernel_rfl) | exact DW.same _ rfl | exact DW.ref _ _ _ rfl | exact DW.arr _ _ _ rfl | refine DW.int ?_ | refine dvb ?_ | refine dvi ?_ | exact OW.cells rfl rfl (DWl.same rfl) | exact Nat.zero_le _ | omega | skip
  all_goals repeat' (first | refine OW.cells rfl rfl ?_ | exact DW.nilArr _ rfl | refine DWl.cons ?_ ?_ | exact DWl.nil | exact DW.same _ rfl | exact DW.ref _ _ _ rfl | exact DW.arr _ _ _ rfl | exact DW.sub _ _ _ _ rfl | exact DW.mo _ _ rfl | exact DW.nilLst _ | refine DW.aggl ?_ | refine DW.tupl ?_ | refine DW.clol ?_ ?_)
  all_goals try ((conv => whnf); with_reducible first | refine Round.mark ?_ | refine Tells.mark ?_ | refine Retold.mark ?_)
  all_goals try first | (show (_ : Bool) = _; simp_all; done) | (show (_ : Int) < _; simp at *; omega) | (show (_ : Int) ≤ _; simp at *; omega) | (show (_ : Nat) < _; simp at *; omega) | (show (_ : Nat) ≤ _; simp at *; omega)
  all_goals try first | ((with_reducible show Option.isSome (slElem _ _) = true); kernel_rfl) | ((with_reducible show slElem _ _ = some _); kernel_rfl) | ((with_reducible refine enters_mark ?_); kernel_rfl) | (with_reducible assumption) | ((with_reducible show List.all _ DV.one = true); rfl) | ((with_reducible show (_ : Nat) = _); rfl) | ((with_reducible show (_ == true) = true); simpa using h) | ((with_reducible show (_ : Nat) ≤ _); exact Nat.le_of_ble_eq_true rfl) | ((with_reducible show (_ : Int) ≤ _); first | omega | decide) | ((with_reducible show (_ : Int) < _); first | omega | decide) | ((with_reducible show (_ : Nat) < _); omega) | ((with_reducible show (_ : Nat) ≤ _); omega)
  conv => whnf
  refine Retold.list [] [] (.tup []) (stO ks rows n (stab (ltK ks rows) n)) 3 (by kernel_rfl) ?_ ?_ ⟨rfl, rfl⟩
  iterate 2 · repeat' (first | exact DWl.eq rfl (chC_all _) | exact DWl.eq rfl (rwF_all _ _ _) | exact DW.same _ rfl | exact DW.ref _ _ _ rfl | exact DW.arr _ _ _ rfl | exact OW.cells rfl rfl (DWl.same rfl) | refine OW.cells rfl rfl ?_ | refine DWl.cons ?_ ?_ | exact DWl.nil | exact DW.nilArr _ rfl | exact DW.nilLst _ | refine DW.clol ?_ ?_ | refine DW.aggl ?_ | refine DW.tupl ?_ | refine DW.int ?_ | refine DW.bool ?_ | refine DW.str ?_ | refine DW.arrE rfl ?_ | ((conv => whnf); first | refine And.intro ?_ ?_ | trivial))
end Go.Proofs.YtlchjjchgebfiaaGreatDoor
namespace Go.Proofs.YtlchjjchgebfiaaGreatDoor
open Go.RowKit Go.Dl Go.Dl.Stb
attribute [local irreducible] Tri SCall TSem ECall Drawn DFun QSem PSem PCall GCall MCall Round Go.Dl.Weak dloadE OW DWl Tells IntKind.wrap Retold ESem
theorem chC_z (ks : List Int) : chC (ks.take 0) = [] := rfl
theorem ints_len (ks : List Int) : (((ks.map intD).length : Nat) : Int) = ((ks.length : Nat) : Int) := by rw [List.length_map]
theorem ints_lt {ks : List Int} {i : Nat} (h : i < ks.length) : (i : Int) < (((ks.map intD).length : Nat) : Int) := by rw [List.length_map]; omega
theorem ints_n {ks : List Int} {i : Nat} (h : i < ks.length) : ((i : Nat) : Int).toNat < ks.length := by rw [Int.toNat_natCast]; exact h
def KIn (k : Int) : Prop := -9223372036854775808 ≤ k ∧ k ≤ 9223372036854775807
theorem tn_is {k : Int} (hr : KIn k) (hneg : k < 0) : IntKind.i64.wrap (0 - IntKind.i64.wrap (k + 1)) = atK k := by
  have h1 := hr.1
  unfold atK
  rw [if_pos hneg, IntKind.wrap_i64, IntKind.wrap_i64]; omega
theorem tp_is {k : Int} (hr : KIn k) (hneg : ¬ k < 0) : IntKind.i64.wrap (k - 1) = atK k := by
  have h1 := hr.2
  unfold atK
  rw [if_neg hneg, IntKind.wrap_i64]; omega
theorem ko_is {m : Nat} {k : Int} : KeyOk m k ↔ k ≠ 0 ∧ ¬ (m : Int) ≤ atK k := by
  unfold KeyOk atK; split <;> omega
theorem bf_t {p q : Bool} (h : (bif p then true else q) = true) : p = true ∨ q = true := by cases p; exact .inr h; exact .inl rfl
theorem bf_f {p q : Bool} (h : (bif p then true else q) = false) : p = false ∧ q = false := by cases p with
  | true => cases h
  | false => exact ⟨rfl, h⟩
theorem tt_t {m : Nat} {k x : Int} (e : x = atK k) (hok : KeyOk m k) (h : (bif k == 0 then true else decide ((m : Int) ≤ x)) = true) : False := by
  have h2 := ko_is.1 hok
  subst e
  rcases bf_t h with h | h
  · exact h2.1 (eq_of_beq h)
  · exact h2.2 (of_decide_eq_true h)
theorem tt_f {m : Nat} {k x : Int} (e : x = atK k) (hok : ¬ KeyOk m k) (h : (bif k == 0 then true else decide ((m : Int) ≤ x)) = false) : False := by
  subst e
  obtain ⟨h1, h2⟩ := bf_f h
  exact hok (ko_is.2 ⟨(by intro e; subst e; cases h1), of_decide_eq_false h2⟩)
theorem kr_at {ks : List Int} {i : Nat} (hr : ∀ k ∈ ks, KIn k) (h : i < ks.length) : KIn (ks.getD ((i : Nat) : Int).toNat 0) := by
  rw [Int.toNat_natCast, List.getD_eq_getElem?_getD, List.getElem?_eq_getElem h]; exact hr _ (List.getElem_mem h)
theorem tnb {b : Bool} (h : (true && !b) = true) : (b == false) = true := by cases b; rfl; cases h
theorem nb_s (k : Int) : k < 0 → sgnK k = -1 := fun h => by unfold sgnK; rw [if_pos h]
theorem nb_p (k : Int) : ¬ k < 0 → sgnK k = 1 := fun h => by unfold sgnK; rw [if_neg h]
theorem ch_push {ks : List Int} {i : Nat} (h : i < ks.length) : (chC (ks.take i)).take (i * 1) ++ [oneD (ks.getD ((i : Nat) : Int).toNat 0)] = chC (ks.take (i + 1)) := by
  rw [Int.toNat_natCast, Nat.mul_one]
  unfold chC
  rw [List.take_of_length_le (by rw [List.length_map, List.length_take]; omega), List.take_succ_eq_append_getElem h, List.map_append, List.getD_eq_getElem?_getD, List.getElem?_eq_getElem h]; rfl
theorem ch_all (ks : List Int) (i : Nat) : ((chC ks).take i).all noId1 = true := by
  rw [List.all_eq_true]
  exact fun x hx => List.all_eq_true.1 (chC_all ks) x (List.mem_of_mem_take hx)
theorem ch_len {ks : List Int} {i : Nat} (h : i < ks.length) : i * 1 ≤ (chC (ks.take i)).length := by
  rw [chC_len, List.length_take]; omega
def sortL (t : Tb) (ks : List Int) : Tb := ⟨t.head, (List.range t.rows.length).map fun j => t.rows.getD (stab (ltK ks t.rows) t.rows.length j) []⟩
def sortV (t : Tb) (ks : List Int) : DV := .tup [tab (sortL t ks), int1 0]
theorem so_len (i : Nat) (h : (i + 1) * 1 ≤ 140737488355328) : i + 1 ≤ maxLen := by
  have : (140737488355328 : Nat) ≤ maxLen := by decide
  omega
theorem so_bad {ks : List Int} {m i : Nat} (h : i < ks.length) (hb : ¬ KeyOk m (ks.getD ((i : Nat) : Int).toNat 0)) : ¬ ∀ k ∈ ks, KeyOk m k := fun hall => by
  rw [Int.toNat_natCast, List.getD_eq_getElem?_getD, List.getElem?_eq_getElem h] at hb
  exact hb (hall _ (List.getElem_mem h))
theorem so_next {ks : List Int} {m i : Nat} (h : i < ks.length) (hk : KeyOk m (ks.getD ((i : Nat) : Int).toNat 0)) (hp : ∀ k ∈ ks.take i, KeyOk m k) : ∀ k ∈ ks.take (i + 1), KeyOk m k := fun k hm => by
  rw [Int.toNat_natCast, List.getD_eq_getElem?_getD, List.getElem?_eq_getElem h] at hk
  rw [List.take_succ_eq_append_getElem h, List.mem_append, List.mem_singleton] at hm
  rcases hm with hm | rfl
  · exact hp k hm
  · exact hk
theorem rowsC_map : ∀ l : List (List ByteArray), rowsC l = l.map strs
  | [] => rfl
  | a :: l => by
    show strs a :: rowsC l = _
    rw [rowsC_map l]; rfl
theorem rwF_is (rows : List (List ByteArray)) (n : Nat) (f : Nat → Nat) : rwF rows n f = rowsC ((List.range n).map fun j => rows.getD (f j) []) := by
  rw [rowsC_map, List.map_map]; rfl
theorem rwF_id (rows : List (List ByteArray)) : rowsC rows = rwF rows rows.length fun i => i := by
  rw [rowsC_map]
  refine List.ext_getElem? fun k => ?_
  rcases Nat.lt_or_ge k rows.length with h | h
  · rw [rwF_at h, List.getD_eq_getElem?_getD, List.getElem?_map, List.getElem?_eq_getElem h]; rfl
  · rw [List.getElem?_eq_none (by rw [List.length_map]; exact h), List.getElem?_eq_none (by rw [rwF_len]; exact h)]
theorem so_rl (t : Tb) (ks : List Int) : (sortL t ks).rows.length = t.rows.length := by
  show ((List.range _).map _).length = _
  rw [List.length_map, List.length_range]
def soSt (t : Tb) (ks : List Int) (i : Nat) : St := ⟨0, tmOf [(2, .ref 0 0), (4, .ref 1 0), (6, .ref 2 0), (12, ints ks), (13, int1 ks.length), (14, int1 i)], .of [(0, ⟨25, 2, tbD t⟩), (1, ⟨25, 2, [.v (.slice none 0 0), .v (.slice none 0 0)]⟩), (2, ⟨104, 1, [.arr 3 i]⟩), (3, ⟨105, 1, chC (ks.take i)⟩)] 4⟩
attribute [local irreducible] rwF chC stab
set_option maxRecDepth 20000 in
set_option maxHeartbeats 4000000 in
theorem sort26_D (t : Tb) (ks : List Int) (hk : ks.length ≤ 17592186044416) (hr : ∀ k ∈ ks, KIn k) (hS : (∀ k ∈ ks, KeyOk (t.head.map strD).length k) → SrtOk ks t.rows t.rows.length) (hh1 : 1 ≤ t.head.length) (hh2 : t.head.length ≤ 4096) (hrw : t.rows.length ≤ 4096 ∧ ∀ r ∈ t.rows, 1 ≤ r.length ∧ r.length ≤ 4096) (R : DV) (h1 : (∀ k ∈ ks, KeyOk (t.head.map strD).length k) → R = sortV t ks) (h2 : ¬ (∀ k ∈ ks, KeyOk (t.head.map strD).length k) → R = .tup [tab ⟨[], []⟩, int1 31]) : DPure Tryz.prog 26 [tab t, ints ks] R := by
  refine DFun.data (DFun.body Tryz.func26 rfl (by kernel_rfl) ?_)
  repeat' (first | with_reducible rfl | ((conv => whnf); first | refine And.intro ?_ ?_ | (intro h; first | with_reducible exact tf_no h | with_reducible exact ft_no h | exact Bool.noConfusion h | with_reducible exact h | (have ht : true = true := h; clear ht h) | skip) | ((with_reducible refine ECall.mark ?_); first | refine ECall.only ?_ (fun h => nomatch h) | refine ECall.only ?_ ?_) | ((with_reducible refine Drawn.mark ?_); first | refine Drawn.quiet (by kernel_rfl) ?_) | refine dcell_ok rfl ?_ | refine AppC.new ?_))
  all_goals first | (with_reducible refine enters_mark ?_; kernel_rfl) | (with_reducible refine boolT_mark ?_; kernel_rfl) | rfl | trivial | assumption | exact Nat.le_of_ble_eq_true rfl | (show entersB _ _ = true; kernel_rfl) | exact DW.same _ rfl | exact DW.ref _ _ _ rfl | exact DW.arr _ _ _ rfl | refine DW.int ?_ | refine dvb ?_ | refine dvi ?_ | exact OW.cells rfl rfl (DWl.same rfl) | exact Nat.zero_le _ | omega | skip
  all_goals repeat' (first | refine OW.cells rfl rfl ?_ | exact DW.nilArr _ rfl | refine DWl.cons ?_ ?_ | exact DWl.nil | exact DW.same _ rfl | exact DW.ref _ _ _ rfl | exact DW.arr _ _ _ rfl | exact DW.sub _ _ _ _ rfl | exact DW.mo _ _ rfl | exact DW.nilLst _ | refine DW.aggl ?_ | refine DW.tupl ?_ | refine DW.clol ?_ ?_)
  all_goals try ((conv => whnf); with_reducible first | refine Round.mark ?_ | refine Tells.mark ?_ | refine Retold.mark ?_)
  all_goals try first | (show (_ : Bool) = _; simp_all; done) | (show (_ : Int) < _; simp at *; omega) | (show (_ : Int) ≤ _; simp at *; omega) | (show (_ : Nat) < _; simp at *; omega) | (show (_ : Nat) ≤ _; simp at *; omega)
  conv => whnf
  refine Tri.loop (soSt t ks) (fun i => i ≤ ks.length ∧ ∀ k ∈ ks.take i, KeyOk (t.head.map strD).length k) (fun i => ks.length - i) 0 (by kernel_rfl) (Go.Dl.Weak.list [(0, some 0), (1, some 1), (2, some 2), (3, none)] [] (by kernel_rfl) ?_ ?_) ⟨Nat.zero_le _, fun k hm => by cases hm⟩ ?_
  iterate 2 · repeat' (first | exact DW.nilArr _ rfl | exact ints_len ks | exact chC_z ks | exact DWl.eq rfl (chC_all _) | exact DW.same _ rfl | exact DW.ref _ _ _ rfl | exact DW.arr _ _ _ rfl | exact OW.cells rfl rfl (DWl.same rfl) | refine OW.cells rfl rfl ?_ | refine DWl.cons ?_ ?_ | exact DWl.nil | exact DW.nilArr _ rfl | exact DW.nilLst _ | refine DW.clol ?_ ?_ | refine DW.aggl ?_ | refine DW.tupl ?_ | refine DW.int ?_ | refine DW.bool ?_ | refine DW.str ?_ | refine DW.arrE rfl ?_ | ((conv => whnf); first | refine And.intro ?_ ?_ | trivial))
  intro i ⟨hi, hpre⟩
  have hi : i ≤ ks.length := hi
  have hpre : ∀ k ∈ ks.take i, KeyOk (t.head.map strD).length k := hpre
  show dcode _ _ _ _ (soSt t ks i) _
  by_cases hil : i < ks.length
  · have hlt := ints_lt hil
    have hin := ints_n hil
    have hkr := kr_at hr hil
    by_cases hs : ks.getD ((i : Nat) : Int).toNat 0 < 0
    · by_cases hok : KeyOk (t.head.map strD).length (ks.getD ((i : Nat) : Int).toNat 0)
      · repeat' (first | with_reducible rfl | ((conv => whnf); first | refine And.intro ?_ ?_ | (intro h; first | with_reducible exact tf_no h | with_reducible exact ft_no h | exact Bool.noConfusion h | with_reducible exact h | (exfalso; exact absurd (ge_int h) (Nat.not_le_of_lt hil)) | (exfalso; exact dn_t hs h) | (exfalso; exact tt_t (tn_is hkr hs) (m := (t.head.map strD).length) hok h) | (have ht : true = true := h; clear ht h) | skip) | ((with_reducible refine ECall.mark ?_); first | refine ECall.only ?_ (fun h => nomatch h) | refine ECall.only ?_ ?_) | ((with_reducible refine Drawn.mark ?_); first | refine Drawn.quiet (by kernel_rfl) ?_) | refine dloadE_map ((0 : Int)) ?_ ?_ | exact hlt | exact hin | refine dcell_ok rfl ?_ | refine AppC.new ?_))
        all_goals try ((conv => whnf); with_reducible refine Round.mark ?_)
        all_goals try (first | (with_reducible exact tnb h) | exact ch_len hil | (show (i + 1) * 8 ≤ 140737488355328; omega) | (show i + 1 ≤ maxLen; exact so_len i (by omega)))
        all_goals try first | ((with_reducible show Option.isSome (slElem _ _) = true); kernel_rfl) | ((with_reducible show slElem _ _ = some _); kernel_rfl) | ((with_reducible refine enters_mark ?_); kernel_rfl) | (with_reducible assumption) | ((with_reducible show List.all _ DV.one = true); rfl) | ((with_reducible show (_ : Nat) = _); rfl) | ((with_reducible show (_ == true) = true); simpa using h) | ((with_reducible show (_ : Nat) ≤ _); exact Nat.le_of_ble_eq_true rfl) | ((with_reducible show (_ : Int) ≤ _); first | omega | decide) | ((with_reducible show (_ : Int) < _); first | omega | decide) | ((with_reducible show (_ : Nat) < _); omega) | ((with_reducible show (_ : Nat) ≤ _); omega)
        refine Round.go (fun _ => i + 1) ⟨hil, so_next hil hok hpre⟩ (by show ks.length - (i + 1) < ks.length - i; omega) (Weak.list [(0, some 0), (1, some 1), (2, some 2), (3, some 7)] [4, 5] (by kernel_rfl) ?_ ⟨OW.cells rfl rfl (DWl.same rfl), OW.cells rfl rfl (DWl.same rfl), OW.cells rfl rfl (DWl.cons (DW.arr _ _ _ rfl) DWl.nil), OW.cells rfl rfl (DWl.snocE (ch_push hil) (ch_all _ _) (DW.clol DWl.nil (DWl.cons (DW.pubR (cs := [int1 (sgnK (ks.getD ((i : Nat) : Int).toNat 0))]) rfl (List.Mem.tail _ (List.Mem.head _)) (congrArg (fun x => [int1 x]) (nb_s _ hs).symm) rfl rfl rfl rfl) (DWl.cons (DW.pubR (cs := [int1 (atK (ks.getD ((i : Nat) : Int).toNat 0))]) rfl (List.Mem.head _) (congrArg (fun x => [int1 x]) (tn_is hkr hs)) rfl rfl rfl rfl) DWl.nil)))), trivial⟩)
        · repeat' (first | exact wsucc hil (by omega) | exact DW.same _ rfl | exact DW.ref _ _ _ rfl | exact DW.arr _ _ _ rfl | refine DW.int ?_ | ((conv => whnf); first | refine And.intro ?_ ?_ | trivial))
      · repeat' (first | with_reducible rfl | ((conv => whnf); first | refine And.intro ?_ ?_ | (intro h; first | with_reducible exact tf_no h | with_reducible exact ft_no h | exact Bool.noConfusion h | with_reducible exact h | (exfalso; exact absurd (ge_int h) (Nat.not_le_of_lt hil)) | (exfalso; exact dn_t hs h) | (exfalso; exact tt_f (tn_is hkr hs) (m := (t.head.map strD).length) hok h) | (have ht : true = true := h; clear ht h) | skip) | ((with_reducible refine ECall.mark ?_); first | refine ECall.only ?_ (fun h => nomatch h) | refine ECall.only ?_ ?_) | ((with_reducible refine Drawn.mark ?_); first | refine Drawn.quiet (by kernel_rfl) ?_) | refine dloadE_map ((0 : Int)) ?_ ?_ | exact hlt | exact hin | refine dcell_ok rfl ?_ | refine AppC.new ?_))
        all_goals try ((conv => whnf); with_reducible refine Round.mark ?_)
        all_goals try (first | (with_reducible exact tnb h) | exact ch_len hil | (show (i + 1) * 8 ≤ 140737488355328; omega) | (show i + 1 ≤ maxLen; exact so_len i (by omega)))
        all_goals try first | ((with_reducible show Option.isSome (slElem _ _) = true); kernel_rfl) | ((with_reducible show slElem _ _ = some _); kernel_rfl) | ((with_reducible refine enters_mark ?_); kernel_rfl) | (with_reducible assumption) | ((with_reducible show List.all _ DV.one = true); rfl) | ((with_reducible show (_ : Nat) = _); rfl) | ((with_reducible show (_ == true) = true); simpa using h) | ((with_reducible show (_ : Nat) ≤ _); exact Nat.le_of_ble_eq_true rfl) | ((with_reducible show (_ : Int) ≤ _); first | omega | decide) | ((with_reducible show (_ : Int) < _); first | omega | decide) | ((with_reducible show (_ : Nat) < _); omega) | ((with_reducible show (_ : Nat) ≤ _); omega)
        conv => whnf
        exact Tells.of (h2 (so_bad hil hok)) (Tells.mk (DW.tupl (DWl.cons (DW.aggl (DWl.cons (DW.nilLst _) (DWl.cons (DW.nilLst _) DWl.nil))) (DWl.cons (DW.same _ rfl) DWl.nil))))
    · by_cases hok : KeyOk (t.head.map strD).length (ks.getD ((i : Nat) : Int).toNat 0)
      · repeat' (first | with_reducible rfl | ((conv => whnf); first | refine And.intro ?_ ?_ | (intro h; first | with_reducible exact tf_no h | with_reducible exact ft_no h | exact Bool.noConfusion h | with_reducible exact h | (exfalso; exact absurd (ge_int h) (Nat.not_le_of_lt hil)) | (exfalso; exact dn_f hs h) | (exfalso; exact tt_t (tp_is hkr hs) (m := (t.head.map strD).length) hok h) | (have ht : true = true := h; clear ht h) | skip) | ((with_reducible refine ECall.mark ?_); first | refine ECall.only ?_ (fun h => nomatch h) | refine ECall.only ?_ ?_) | ((with_reducible refine Drawn.mark ?_); first | refine Drawn.quiet (by kernel_rfl) ?_) | refine dloadE_map ((0 : Int)) ?_ ?_ | exact hlt | exact hin | refine dcell_ok rfl ?_ | refine AppC.new ?_))
        all_goals try ((conv => whnf); with_reducible refine Round.mark ?_)
        all_goals try (first | (with_reducible exact tnb h) | exact ch_len hil | (show (i + 1) * 8 ≤ 140737488355328; omega) | (show i + 1 ≤ maxLen; exact so_len i (by omega)))
        all_goals try first | ((with_reducible show Option.isSome (slElem _ _) = true); kernel_rfl) | ((with_reducible show slElem _ _ = some _); kernel_rfl) | ((with_reducible refine enters_mark ?_); kernel_rfl) | (with_reducible assumption) | ((with_reducible show List.all _ DV.one = true); rfl) | ((with_reducible show (_ : Nat) = _); rfl) | ((with_reducible show (_ == true) = true); simpa using h) | ((with_reducible show (_ : Nat) ≤ _); exact Nat.le_of_ble_eq_true rfl) | ((with_reducible show (_ : Int) ≤ _); first | omega | decide) | ((with_reducible show (_ : Int) < _); first | omega | decide) | ((with_reducible show (_ : Nat) < _); omega) | ((with_reducible show (_ : Nat) ≤ _); omega)
        refine Round.go (fun _ => i + 1) ⟨hil, so_next hil hok hpre⟩ (by show ks.length - (i + 1) < ks.length - i; omega) (Weak.list [(0, some 0), (1, some 1), (2, some 2), (3, some 7)] [4, 5] (by kernel_rfl) ?_ ⟨OW.cells rfl rfl (DWl.same rfl), OW.cells rfl rfl (DWl.same rfl), OW.cells rfl rfl (DWl.cons (DW.arr _ _ _ rfl) DWl.nil), OW.cells rfl rfl (DWl.snocE (ch_push hil) (ch_all _ _) (DW.clol DWl.nil (DWl.cons (DW.pubR (cs := [int1 (sgnK (ks.getD ((i : Nat) : Int).toNat 0))]) rfl (List.Mem.tail _ (List.Mem.head _)) (congrArg (fun x => [int1 x]) (nb_p _ hs).symm) rfl rfl rfl rfl) (DWl.cons (DW.pubR (cs := [int1 (atK (ks.getD ((i : Nat) : Int).toNat 0))]) rfl (List.Mem.head _) (congrArg (fun x => [int1 x]) (tp_is hkr hs)) rfl rfl rfl rfl) DWl.nil)))), trivial⟩)
        · repeat' (first | exact wsucc hil (by omega) | exact DW.same _ rfl | exact DW.ref _ _ _ rfl | exact DW.arr _ _ _ rfl | refine DW.int ?_ | ((conv => whnf); first | refine And.intro ?_ ?_ | trivial))
      · repeat' (first | with_reducible rfl | ((conv => whnf); first | refine And.intro ?_ ?_ | (intro h; first | with_reducible exact tf_no h | with_reducible exact ft_no h | exact Bool.noConfusion h | with_reducible exact h | (exfalso; exact absurd (ge_int h) (Nat.not_le_of_lt hil)) | (exfalso; exact dn_f hs h) | (exfalso; exact tt_f (tp_is hkr hs) (m := (t.head.map strD).length) hok h) | (have ht : true = true := h; clear ht h) | skip) | ((with_reducible refine ECall.mark ?_); first | refine ECall.only ?_ (fun h => nomatch h) | refine ECall.only ?_ ?_) | ((with_reducible refine Drawn.mark ?_); first | refine Drawn.quiet (by kernel_rfl) ?_) | refine dloadE_map ((0 : Int)) ?_ ?_ | exact hlt | exact hin | refine dcell_ok rfl ?_ | refine AppC.new ?_))
        all_goals try ((conv => whnf); with_reducible refine Round.mark ?_)
        all_goals try (first | (with_reducible exact tnb h) | exact ch_len hil | (show (i + 1) * 8 ≤ 140737488355328; omega) | (show i + 1 ≤ maxLen; exact so_len i (by omega)))
        all_goals try first | ((with_reducible show Option.isSome (slElem _ _) = true); kernel_rfl) | ((with_reducible show slElem _ _ = some _); kernel_rfl) | ((with_reducible refine enters_mark ?_); kernel_rfl) | (with_reducible assumption) | ((with_reducible show List.all _ DV.one = true); rfl) | ((with_reducible show (_ : Nat) = _); rfl) | ((with_reducible show (_ == true) = true); simpa using h) | ((with_reducible show (_ : Nat) ≤ _); exact Nat.le_of_ble_eq_true rfl) | ((with_reducible show (_ : Int) ≤ _); first | omega | decide) | ((with_reducible show (_ : Int) < _); first | omega | decide) | ((with_reducible show (_ : Nat) < _); omega) | ((with_reducible show (_ : Nat) ≤ _); omega)
        conv => whnf
        exact Tells.of (h2 (so_bad hil hok)) (Tells.mk (DW.tupl (DWl.cons (DW.aggl (DWl.cons (DW.nilLst _) (DWl.cons (DW.nilLst _) DWl.nil))) (DWl.cons (DW.same _ rfl) DWl.nil))))
  · have hil2 : i = ks.length := by omega
    subst hil2
    rw [List.take_length] at hpre
    have hSr := hS hpre
    have hc := clone56_D t.head hh1 hh2
    have hw := rows57_S t.rows hrw.1 hrw.2
    have hch : chC (ks.take ks.length) = chC ks := by rw [List.take_length]
    unfold soSt
    rw [hch]
    repeat' (first | with_reducible rfl | ((conv => whnf); first | refine And.intro ?_ ?_ | (intro h; first | with_reducible exact tf_no h | with_reducible exact ft_no h | exact Bool.noConfusion h | with_reducible exact h | (exfalso; exact hil (lt_int h)) | (have ht : true = true := h; clear ht h) | skip) | ((with_reducible refine SCall.mark ?_); first | refine SCall.data (hc) rfl rfl ?_ | refine SCall.scal (hc) rfl rfl ?_ | refine SCall.at [] (fun m => [(m, ⟨22, 1, rowsC t.rows⟩)]) (fun m => .arr m t.rows.length) 1 hw (by kernel_rfl) trivial (DWl.cons (DW.same _ rfl) DWl.nil) (DW.arr _ _ _ rfl) ⟨OW.cells rfl rfl (DWl.eq rfl (rowsC_all _)), trivial⟩ ?_ | refine SCall.at [4, 2, 3] (fun _ => [(4, ⟨22, 1, rwF t.rows t.rows.length (stab (ltK ks t.rows) t.rows.length)⟩), (2, ⟨104, 1, [.arr 3 ks.length]⟩), (3, ⟨105, 1, chC ks⟩)]) (fun _ => .tup []) 0 (sort62_G hSr) (by kernel_rfl) ⟨OW.cells rfl rfl (DWl.eq (rwF_id _) (rwF_all _ _ _)), OW.cells rfl rfl (DWl.cons (DW.arr _ _ _ rfl) DWl.nil), OW.cells rfl rfl (DWl.eq rfl (chC_all _)), trivial⟩ (DWl.cons (DW.arr _ _ _ rfl) (DWl.cons (DW.clol DWl.nil (DWl.cons (DW.ref _ _ _ rfl) DWl.nil)) DWl.nil)) (DW.tupl DWl.nil) ⟨OW.cells rfl rfl (DWl.eq rfl (rwF_all _ _ _)), OW.cells rfl rfl (DWl.cons (DW.arr _ _ _ rfl) DWl.nil), OW.cells rfl rfl (DWl.eq rfl (chC_all _)), trivial⟩ ?_ | refine SCall.at [5, 2, 3] (fun _ => [(5, ⟨22, 1, rwF t.rows t.rows.length (stab (ltK ks t.rows) t.rows.length)⟩), (2, ⟨104, 1, [.arr 3 ks.length]⟩), (3, ⟨105, 1, chC ks⟩)]) (fun _ => .tup []) 0 (sort62_G hSr) (by kernel_rfl) ⟨OW.cells rfl rfl (DWl.eq (rwF_id _) (rwF_all _ _ _)), OW.cells rfl rfl (DWl.cons (DW.arr _ _ _ rfl) DWl.nil), OW.cells rfl rfl (DWl.eq rfl (chC_all _)), trivial⟩ (DWl.cons (DW.arr _ _ _ rfl) (DWl.cons (DW.clol DWl.nil (DWl.cons (DW.ref _ _ _ rfl) DWl.nil)) DWl.nil)) (DW.tupl DWl.nil) ⟨OW.cells rfl rfl (DWl.eq rfl (rwF_all _ _ _)), OW.cells rfl rfl (DWl.cons (DW.arr _ _ _ rfl) DWl.nil), OW.cells rfl rfl (DWl.eq rfl (chC_all _)), trivial⟩ ?_) | ((with_reducible refine PCall.mark ?_); first | refine PCall.mk (hc) rfl rfl ?_) | ((with_reducible refine GCall.mark ?_); first | refine GCall.data (fun _ => hc) rfl rfl ?_ | refine GCall.scal (fun _ => hc) rfl rfl ?_) | ((with_reducible refine MCall.mark ?_); first | refine MCall.data (fun _ => hc) rfl rfl ?_ | refine MCall.plain (PCall.mk (hc) rfl rfl ?_)) | ((with_reducible refine Tri.mark ?_); first | (refine Tri.treeX [4, 5] (MX.mv 0 0 (MX.mv 0 1 (MX.mv 0 3 (MX.mv 0 4 (MX.two 2 2 (MX.two 2 5 (MX.two 1 6 (MX.mv 1 7 (MX.mv 1 8 MX.done)) 1 7 (MX.mv 1 6 (MX.mv 1 8 MX.done))) 1 7 (MX.mv 2 5 (MX.mv 1 6 (MX.mv 1 8 MX.done)))) 1 7 (MX.mv 2 2 (MX.mv 2 5 (MX.mv 1 6 (MX.mv 1 8 MX.done))))))))) ?_ (by kernel_rfl) ?_; rfl)) | ((with_reducible refine ECall.mark ?_); first | refine ECall.only ?_ (fun h => nomatch h) | refine ECall.only ?_ ?_) | ((with_reducible refine Drawn.mark ?_); first | (refine Drawn.tree ?_; refine Tri.treeX [4, 5] (MX.mv 0 0 (MX.mv 0 1 (MX.mv 0 3 (MX.mv 0 4 (MX.two 2 2 (MX.two 2 5 (MX.two 1 6 (MX.mv 1 7 (MX.mv 1 8 MX.done)) 1 7 (MX.mv 1 6 (MX.mv 1 8 MX.done))) 1 7 (MX.mv 2 5 (MX.mv 1 6 (MX.mv 1 8 MX.done)))) 1 7 (MX.mv 2 2 (MX.mv 2 5 (MX.mv 1 6 (MX.mv 1 8 MX.done))))))))) ?_ (by kernel_rfl) ?_; rfl) | refine Drawn.quiet (by kernel_rfl) ?_) | refine dcell_ok rfl ?_ | refine AppC.new ?_))
    all_goals try (first | ((with_reducible refine enters_mark ?_); kernel_rfl) | ((with_reducible show Option.all _ _ = true); rfl))
    all_goals try first | ((with_reducible show Option.isSome (slElem _ _) = true); kernel_rfl) | ((with_reducible show slElem _ _ = some _); kernel_rfl) | ((with_reducible refine enters_mark ?_); kernel_rfl) | (with_reducible assumption) | ((with_reducible show List.all _ DV.one = true); rfl) | ((with_reducible show (_ : Nat) = _); rfl) | ((with_reducible show (_ == true) = true); simpa using h) | ((with_reducible show (_ : Nat) ≤ _); exact Nat.le_of_ble_eq_true rfl) | ((with_reducible show (_ : Int) ≤ _); first | omega | decide) | ((with_reducible show (_ : Int) < _); first | omega | decide) | ((with_reducible show (_ : Nat) < _); omega) | ((with_reducible show (_ : Nat) ≤ _); omega)
    all_goals try (conv => whnf)
    all_goals exact Tells.of (h1 hpre) (Tells.mk (DW.tupl (DWl.cons (DW.aggl (DWl.cons (DW.same _ rfl) (DWl.cons (DW.pubM (l := (sortL t ks).rows) (f := rowD) rfl (so_rl t ks) rfl rfl rowRow ((rwF_is _ _ _).trans (rowsC_eq _))) DWl.nil))) (DWl.cons (DW.same _ rfl) DWl.nil))))
end Go.Proofs.YtlchjjchgebfiaaGreatDoor
namespace Go.Proofs.YtlchjjchgebfiaaGreatDoor
open Go.RowKit Go.Dl Go.Dl.Stb
attribute [local irreducible] Tri SCall TSem ECall Drawn DFun QSem PSem PCall GCall MCall Round Go.Dl.Weak dloadE OW DWl Tells IntKind.wrap Retold ESem
theorem mx_is {n : Nat} {k : Int} (hk : KeyOk n k) (hn : n ≤ 4096) : IntKind.i64.wrap ((if k < IntKind.i64.wrap (0 - k) then IntKind.i64.wrap (0 - k) else k) - 1) = atK k := by
  have h1 := hk.1
  have h2 := hk.2
  unfold atK
  rw [IntKind.wrap_i64, IntKind.wrap_i64]
  split <;> split <;> omega
theorem gt_is {x y : ByteArray} (h : lessB y x = true) : 0 < cmpT x y := by
  have h1 := less_asym h
  have h2 : ¬ cmpT x y < 0 := fun c => by rw [← cmp_less, decide_eq_true c] at h1; cases h1
  have h3 : cmpT x y ≠ 0 := fun c => by rw [(cmp_zero.1 c).2] at h; cases h
  omega
theorem lt_is {x y : ByteArray} (h : lessB x y = true) : cmpT x y < 0 := by rw [← cmp_less] at h; exact of_decide_eq_true h
theorem on_n1 {k : Int} {a b : List ByteArray} (hs : k < 0) (h : lessB (b.getD (atK k).toNat emB) (a.getD (atK k).toNat emB) = true) : oneK k a b < 0 := by
  unfold oneK; rw [nb_s k hs]; have := gt_is h; omega
theorem on_n2 {k : Int} {a b : List ByteArray} (hs : k < 0) (h : lessB (a.getD (atK k).toNat emB) (b.getD (atK k).toNat emB) = true) : 0 < oneK k a b := by
  unfold oneK; rw [nb_s k hs]; have := lt_is h; omega
theorem on_p1 {k : Int} {a b : List ByteArray} (hs : ¬ k < 0) (h : lessB (a.getD (atK k).toNat emB) (b.getD (atK k).toNat emB) = true) : oneK k a b < 0 := by
  unfold oneK; rw [nb_p k hs]; have := lt_is h; omega
theorem on_p2 {k : Int} {a b : List ByteArray} (hs : ¬ k < 0) (h : lessB (b.getD (atK k).toNat emB) (a.getD (atK k).toNat emB) = true) : 0 < oneK k a b := by
  unfold oneK; rw [nb_p k hs]; have := gt_is h; omega
theorem on_z {k : Int} {a b : List ByteArray} (h1 : lessB (a.getD (atK k).toNat emB) (b.getD (atK k).toNat emB) = false) (h2 : lessB (b.getD (atK k).toNat emB) (a.getD (atK k).toNat emB) = false) : oneK k a b = 0 := by
  unfold oneK; rw [cmp_zero.2 ⟨h1, h2⟩, Int.mul_zero]
theorem ah_1 {ks : List Int} {a b : List ByteArray} {i : Nat} (hil : i < ks.length) (he : cmpK (ks.drop i) a b = cmpK ks a b) (h : oneK (ks.getD ((i : Nat) : Int).toNat 0) a b < 0) : bl (decide (cmpK ks a b < 0)) = bl true := by
  rw [Int.toNat_natCast] at h
  rw [← he, cmpK_at hil, show (oneK (ks.getD i 0) a b != 0) = true from bne_iff_ne.2 (by omega)]
  exact congrArg bl (decide_eq_true h)
theorem ah_2 {ks : List Int} {a b : List ByteArray} {i : Nat} (hil : i < ks.length) (he : cmpK (ks.drop i) a b = cmpK ks a b) (h : 0 < oneK (ks.getD ((i : Nat) : Int).toNat 0) a b) : bl (decide (cmpK ks a b < 0)) = bl false := by
  rw [Int.toNat_natCast] at h
  rw [← he, cmpK_at hil, show (oneK (ks.getD i 0) a b != 0) = true from bne_iff_ne.2 (by omega)]
  exact congrArg bl (decide_eq_false (by show ¬ oneK _ a b < 0; omega))
theorem ah_3 {ks : List Int} {a b : List ByteArray} {i : Nat} (hil : i < ks.length) (he : cmpK (ks.drop i) a b = cmpK ks a b) (h : oneK (ks.getD ((i : Nat) : Int).toNat 0) a b = 0) : cmpK (ks.drop (i + 1)) a b = cmpK ks a b := by
  rw [Int.toNat_natCast] at h
  rw [← he, cmpK_at hil, h]; rfl
theorem ah_z {ks : List Int} {a b : List ByteArray} {i : Nat} (hil : ¬ i < ks.length) (he : cmpK (ks.drop i) a b = cmpK ks a b) : bl (decide (cmpK ks a b < 0)) = bl false := by
  rw [← he, List.drop_eq_nil_of_le (Nat.le_of_not_lt hil)]; rfl
def ahSt (a b : List ByteArray) (ks : List Int) (i : Nat) : St := ⟨0, tmOf [(0, strs a), (1, strs b), (2, ints ks), (7, int1 i)], .of [] 0⟩
attribute [local irreducible] cmpK oneK
set_option maxRecDepth 20000 in
set_option maxHeartbeats 4000000 in
theorem ahead64_D {n : Nat} {a b : List ByteArray} (ha : RowOk n a) (hb : RowOk n b) (ks : List Int) (hl : ks.length ≤ 17592186044416) (hk : ∀ k ∈ ks, KeyOk n k) (hn : n ≤ 4096) : DPure Tryz.prog 64 [strs a, strs b, ints ks] (bl (decide (cmpK ks a b < 0))) := by
  refine DFun.data (DFun.body Tryz.func64 rfl (by kernel_rfl) ?_)
  repeat' (first | with_reducible rfl | ((conv => whnf); first | refine And.intro ?_ ?_ | (intro h; first | with_reducible exact tf_no h | with_reducible exact ft_no h | exact Bool.noConfusion h | with_reducible exact h | (have ht : true = true := h; clear ht h) | skip) | ((with_reducible refine ECall.mark ?_); first | refine ECall.only ?_ (fun h => nomatch h) | refine ECall.only ?_ ?_) | ((with_reducible refine Drawn.mark ?_); first | refine Drawn.quiet (by kernel_rfl) ?_) | refine dcell_ok rfl ?_ | refine AppC.new ?_))
  all_goals first | (with_reducible refine enters_mark ?_; kernel_rfl) | (with_reducible refine boolT_mark ?_; kernel_rfl) | rfl | trivial | assumption | exact Nat.le_of_ble_eq_true rfl | (show entersB _ _ = true; kernel_rfl) | exact DW.same _ rfl | exact DW.ref _ _ _ rfl | exact DW.arr _ _ _ rfl | refine DW.int ?_ | refine dvb ?_ | refine dvi ?_ | exact OW.cells rfl rfl (DWl.same rfl) | exact Nat.zero_le _ | omega | skip
  all_goals repeat' (first | refine OW.cells rfl rfl ?_ | exact DW.nilArr _ rfl | refine DWl.cons ?_ ?_ | exact DWl.nil | exact DW.same _ rfl | exact DW.ref _ _ _ rfl | exact DW.arr _ _ _ rfl | exact DW.sub _ _ _ _ rfl | exact DW.mo _ _ rfl | exact DW.nilLst _ | refine DW.aggl ?_ | refine DW.tupl ?_ | refine DW.clol ?_ ?_)
  all_goals try ((conv => whnf); with_reducible first | refine Round.mark ?_ | refine Tells.mark ?_ | refine Retold.mark ?_)
  all_goals try first | (show (_ : Bool) = _; simp_all; done) | (show (_ : Int) < _; simp at *; omega) | (show (_ : Int) ≤ _; simp at *; omega) | (show (_ : Nat) < _; simp at *; omega) | (show (_ : Nat) ≤ _; simp at *; omega)
  conv => whnf
  refine Tri.loop (ahSt a b ks) (fun i => i ≤ ks.length ∧ cmpK (ks.drop i) a b = cmpK ks a b) (fun i => ks.length - i) 0 (by kernel_rfl) (Go.Dl.Weak.list [] [] (by kernel_rfl) ?_ ?_) ⟨Nat.zero_le _, rfl⟩ ?_
  iterate 2 · repeat' (first | rfl | exact DW.same _ rfl | exact DW.ref _ _ _ rfl | exact DW.arr _ _ _ rfl | exact OW.cells rfl rfl (DWl.same rfl) | refine OW.cells rfl rfl ?_ | refine DWl.cons ?_ ?_ | exact DWl.nil | exact DW.nilArr _ rfl | exact DW.nilLst _ | refine DW.clol ?_ ?_ | refine DW.aggl ?_ | refine DW.tupl ?_ | refine DW.int ?_ | refine DW.bool ?_ | refine DW.str ?_ | refine DW.arrE rfl ?_ | ((conv => whnf); first | refine And.intro ?_ ?_ | trivial))
  intro i ⟨hi, he⟩
  have hi : i ≤ ks.length := hi
  have he : cmpK (ks.drop i) a b = cmpK ks a b := he
  show dcode _ _ _ _ (ahSt a b ks i) _
  by_cases hil : i < ks.length
  · have hlt := ints_lt hil
    have hin := ints_n hil
    have hko : KeyOk n (ks.getD ((i : Nat) : Int).toNat 0) := by rw [Int.toNat_natCast]; exact key_at hk hil
    have e := mx_is hko hn
    have i0 := (atK_in hko).1
    have ia := ro_int ha hko
    have ib := ro_int hb hko
    have na := ro_nat ha hko
    have nb := ro_nat hb hko
    have c1 := less24_D (b.getD (atK (ks.getD ((i : Nat) : Int).toNat 0)).toNat emB) (a.getD (atK (ks.getD ((i : Nat) : Int).toNat 0)).toNat emB) (ro_cell hb hko) (ro_cell ha hko)
    have c2 := less24_D (a.getD (atK (ks.getD ((i : Nat) : Int).toNat 0)).toNat emB) (b.getD (atK (ks.getD ((i : Nat) : Int).toNat 0)).toNat emB) (ro_cell ha hko) (ro_cell hb hko)
    rw [← e] at i0 ia ib na nb c1 c2
    by_cases hs : ks.getD ((i : Nat) : Int).toNat 0 < 0
    · repeat' (first | with_reducible rfl | ((conv => whnf); first | refine And.intro ?_ ?_ | (intro h; first | with_reducible exact tf_no h | with_reducible exact ft_no h | exact Bool.noConfusion h | with_reducible exact h | (exfalso; exact of_decide_eq_false h hlt) | (exfalso; exact dn_t hs h) | (have ht : true = true := h; clear ht h) | skip) | ((with_reducible refine SCall.mark ?_); first | refine SCall.data (c1) rfl rfl ?_ | refine SCall.scal (c1) rfl rfl ?_ | refine SCall.data (c2) rfl rfl ?_ | refine SCall.scal (c2) rfl rfl ?_) | ((with_reducible refine PCall.mark ?_); first | refine PCall.mk (c1) rfl rfl ?_ | refine PCall.mk (c2) rfl rfl ?_) | ((with_reducible refine GCall.mark ?_); first | refine GCall.data (fun _ => c1) rfl rfl ?_ | refine GCall.scal (fun _ => c1) rfl rfl ?_ | refine GCall.data (fun _ => c2) rfl rfl ?_ | refine GCall.scal (fun _ => c2) rfl rfl ?_) | ((with_reducible refine MCall.mark ?_); first | refine MCall.data (fun _ => c1) rfl rfl ?_ | refine MCall.plain (PCall.mk (c1) rfl rfl ?_) | refine MCall.data (fun _ => c2) rfl rfl ?_ | refine MCall.plain (PCall.mk (c2) rfl rfl ?_)) | ((with_reducible refine ECall.mark ?_); first | refine ECall.only ?_ (fun h => nomatch h) | refine ECall.only ?_ ?_) | ((with_reducible refine Drawn.mark ?_); first | refine Drawn.quiet (by kernel_rfl) ?_) | refine dloadE_map ((0 : Int)) ?_ ?_ | refine dloadE_map (emB) ?_ ?_ | exact i0 | exact ia | exact ib | exact na | exact nb | exact hlt | exact hin | refine dcell_ok rfl ?_ | refine AppC.new ?_))
      all_goals try ((conv => whnf); with_reducible refine Round.mark ?_)
      all_goals try first | ((with_reducible show Option.isSome (slElem _ _) = true); kernel_rfl) | ((with_reducible show slElem _ _ = some _); kernel_rfl) | ((with_reducible refine enters_mark ?_); kernel_rfl) | (with_reducible assumption) | ((with_reducible show List.all _ DV.one = true); rfl) | ((with_reducible show (_ : Nat) = _); rfl) | ((with_reducible show (_ == true) = true); simpa using h) | ((with_reducible show (_ : Nat) ≤ _); exact Nat.le_of_ble_eq_true rfl) | ((with_reducible show (_ : Int) ≤ _); first | omega | decide) | ((with_reducible show (_ : Int) < _); first | omega | decide) | ((with_reducible show (_ : Nat) < _); omega) | ((with_reducible show (_ : Nat) ≤ _); omega)
      · rw [e] at h
        conv => whnf
        exact Tells.of (ah_1 hil he (on_n1 hs h)) (Tells.mk (DW.same _ rfl))
      · rw [e] at h
        conv => whnf
        exact Tells.of (ah_2 hil he (on_n2 hs h)) (Tells.mk (DW.same _ rfl))
      · rename_i h1
        rw [e] at h h1
        refine Round.go (fun _ => i + 1) ⟨hil, ah_3 hil he (on_z h h1)⟩ (by show ks.length - (i + 1) < ks.length - i; omega) (Weak.list [] [] (by kernel_rfl) ?_ ?_)
        iterate 2 · repeat' (first | exact wsucc hil (by omega) | exact DW.same _ rfl | exact DW.ref _ _ _ rfl | exact DW.arr _ _ _ rfl | exact OW.cells rfl rfl (DWl.same rfl) | refine OW.cells rfl rfl ?_ | refine DWl.cons ?_ ?_ | exact DWl.nil | exact DW.nilArr _ rfl | exact DW.nilLst _ | refine DW.clol ?_ ?_ | refine DW.aggl ?_ | refine DW.tupl ?_ | refine DW.int ?_ | refine DW.bool ?_ | refine DW.str ?_ | refine DW.arrE rfl ?_ | ((conv => whnf); first | refine And.intro ?_ ?_ | trivial))
    · repeat' (first | with_reducible rfl | ((conv => whnf); first | refine And.intro ?_ ?_ | (intro h; first | with_reducible exact tf_no h | with_reducible exact ft_no h | exact Bool.noConfusion h | with_reducible exact h | (exfalso; exact of_decide_eq_false h hlt) | (exfalso; exact dn_f hs h) | (have ht : true = true := h; clear ht h) | skip) | ((with_reducible refine SCall.mark ?_); first | refine SCall.data (c1) rfl rfl ?_ | refine SCall.scal (c1) rfl rfl ?_ | refine SCall.data (c2) rfl rfl ?_ | refine SCall.scal (c2) rfl rfl ?_) | ((with_reducible refine PCall.mark ?_); first | refine PCall.mk (c1) rfl rfl ?_ | refine PCall.mk (c2) rfl rfl ?_) | ((with_reducible refine GCall.mark ?_); first | refine GCall.data (fun _ => c1) rfl rfl ?_ | refine GCall.scal (fun _ => c1) rfl rfl ?_ | refine GCall.data (fun _ => c2) rfl rfl ?_ | refine GCall.scal (fun _ => c2) rfl rfl ?_) | ((with_reducible refine MCall.mark ?_); first | refine MCall.data (fun _ => c1) rfl rfl ?_ | refine MCall.plain (PCall.mk (c1) rfl rfl ?_) | refine MCall.data (fun _ => c2) rfl rfl ?_ | refine MCall.plain (PCall.mk (c2) rfl rfl ?_)) | ((with_reducible refine ECall.mark ?_); first | refine ECall.only ?_ (fun h => nomatch h) | refine ECall.only ?_ ?_) | ((with_reducible refine Drawn.mark ?_); first | refine Drawn.quiet (by kernel_rfl) ?_) | refine dloadE_map ((0 : Int)) ?_ ?_ | refine dloadE_map (emB) ?_ ?_ | exact i0 | exact ia | exact ib | exact na | exact nb | exact hlt | exact hin | refine dcell_ok rfl ?_ | refine AppC.new ?_))
      all_goals try ((conv => whnf); with_reducible refine Round.mark ?_)
      all_goals try first | ((with_reducible show Option.isSome (slElem _ _) = true); kernel_rfl) | ((with_reducible show slElem _ _ = some _); kernel_rfl) | ((with_reducible refine enters_mark ?_); kernel_rfl) | (with_reducible assumption) | ((with_reducible show List.all _ DV.one = true); rfl) | ((with_reducible show (_ : Nat) = _); rfl) | ((with_reducible show (_ == true) = true); simpa using h) | ((with_reducible show (_ : Nat) ≤ _); exact Nat.le_of_ble_eq_true rfl) | ((with_reducible show (_ : Int) ≤ _); first | omega | decide) | ((with_reducible show (_ : Int) < _); first | omega | decide) | ((with_reducible show (_ : Nat) < _); omega) | ((with_reducible show (_ : Nat) ≤ _); omega)
      · rw [e] at h
        conv => whnf
        exact Tells.of (ah_1 hil he (on_p1 hs h)) (Tells.mk (DW.same _ rfl))
      · rw [e] at h
        conv => whnf
        exact Tells.of (ah_2 hil he (on_p2 hs h)) (Tells.mk (DW.same _ rfl))
      · rename_i h1
        rw [e] at h h1
        refine Round.go (fun _ => i + 1) ⟨hil, ah_3 hil he (on_z h1 h)⟩ (by show ks.length - (i + 1) < ks.length - i; omega) (Weak.list [] [] (by kernel_rfl) ?_ ?_)
        iterate 2 · repeat' (first | exact wsucc hil (by omega) | exact DW.same _ rfl | exact DW.ref _ _ _ rfl | exact DW.arr _ _ _ rfl | exact OW.cells rfl rfl (DWl.same rfl) | refine OW.cells rfl rfl ?_ | refine DWl.cons ?_ ?_ | exact DWl.nil | exact DW.nilArr _ rfl | exact DW.nilLst _ | refine DW.clol ?_ ?_ | refine DW.aggl ?_ | refine DW.tupl ?_ | refine DW.int ?_ | refine DW.bool ?_ | refine DW.str ?_ | refine DW.arrE rfl ?_ | ((conv => whnf); first | refine And.intro ?_ ?_ | trivial))
  · repeat' (first | with_reducible rfl | ((conv => whnf); first | refine And.intro ?_ ?_ | (intro h; first | with_reducible exact tf_no h | with_reducible exact ft_no h | exact Bool.noConfusion h | with_reducible exact h | (exfalso; exact hil (by rw [List.length_map] at h; exact lt_int h)) | (have ht : true = true := h; clear ht h) | skip) | ((with_reducible refine ECall.mark ?_); first | refine ECall.only ?_ (fun h => nomatch h) | refine ECall.only ?_ ?_) | ((with_reducible refine Drawn.mark ?_); first | refine Drawn.quiet (by kernel_rfl) ?_) | refine dcell_ok rfl ?_ | refine AppC.new ?_))
    all_goals try first | ((with_reducible show Option.isSome (slElem _ _) = true); kernel_rfl) | ((with_reducible show slElem _ _ = some _); kernel_rfl) | ((with_reducible refine enters_mark ?_); kernel_rfl) | (with_reducible assumption) | ((with_reducible show List.all _ DV.one = true); rfl) | ((with_reducible show (_ : Nat) = _); rfl) | ((with_reducible show (_ == true) = true); simpa using h) | ((with_reducible show (_ : Nat) ≤ _); exact Nat.le_of_ble_eq_true rfl) | ((with_reducible show (_ : Int) ≤ _); first | omega | decide) | ((with_reducible show (_ : Int) < _); first | omega | decide) | ((with_reducible show (_ : Nat) < _); omega) | ((with_reducible show (_ : Nat) ≤ _); omega)
    conv => whnf
    exact Tells.of (ah_z hil he) (Tells.mk (DW.same _ rfl))
end Go.Proofs.YtlchjjchgebfiaaGreatDoor
namespace Go.Proofs.YtlchjjchgebfiaaGreatDoor
open Go.RowKit Go.Dl
attribute [local irreducible] Tri SCall TSem ECall Drawn DFun QSem PSem PCall GCall MCall Round Weak dloadE OW DWl Tells Retold ESem
theorem cp_all2 (t : Tb) : rowsC (t.rows.take t.rows.length) = rowsC t.rows := by rw [List.take_length]
attribute [local irreducible] rowsC
set_option maxRecDepth 20000 in
set_option maxHeartbeats 2000000 in
theorem copy11_S (t : Tb) (ht : CpOk t) : SCall Tryz.prog 11 [tab t] (.of [] 0) fun r' s' => r' = .agg [strs t.head, .arr 0 t.rows.length] ∧ s' = .of [(0, ⟨22, 1, rowsC t.rows⟩)] 1 := by
  have hh := ht.all _ (.inl rfl)
  have hc := fun i (h : i < t.rows.length) => copied31_D (t.rows.getD (i : Int).toNat []) (ht.all _ (.inr (mem_at h))).1 (ht.all _ (.inr (mem_at h))).2
  refine SCall.retell (SCall.run Tryz.func11 rfl (Nat.le_of_ble_eq_true rfl) (by kernel_rfl) ?_)
  repeat' (first | with_reducible rfl | ((conv => whnf); first | refine And.intro ?_ ?_ | (intro h; first | with_reducible exact tf_no h | with_reducible exact ft_no h | exact Bool.noConfusion h | with_reducible exact h | (have ht : true = true := h; clear ht h) | skip) | ((with_reducible refine SCall.mark ?_); first | refine SCall.data (copied31_D t.head hh.1 hh.2) rfl rfl ?_ | refine SCall.scal (copied31_D t.head hh.1 hh.2) rfl rfl ?_) | ((with_reducible refine PCall.mark ?_); first | refine PCall.mk (copied31_D t.head hh.1 hh.2) rfl rfl ?_) | ((with_reducible refine GCall.mark ?_); first | refine GCall.data (fun _ => copied31_D t.head hh.1 hh.2) rfl rfl ?_ | refine GCall.scal (fun _ => copied31_D t.head hh.1 hh.2) rfl rfl ?_) | ((with_reducible refine MCall.mark ?_); first | refine MCall.data (fun _ => copied31_D t.head hh.1 hh.2) rfl rfl ?_ | refine MCall.plain (PCall.mk (copied31_D t.head hh.1 hh.2) rfl rfl ?_)) | ((with_reducible refine ECall.mark ?_); first | refine ECall.only ?_ (fun h => nomatch h) | refine ECall.only ?_ ?_) | ((with_reducible refine Drawn.mark ?_); first | refine Drawn.quiet (by kernel_rfl) ?_) | refine dcell_ok rfl ?_ | refine AppC.new ?_))
  all_goals first | (with_reducible refine enters_mark ?_; kernel_rfl) | (with_reducible refine boolT_mark ?_; kernel_rfl) | rfl | trivial | assumption | exact Nat.le_of_ble_eq_true rfl | (show entersB _ _ = true; kernel_rfl) | exact DW.same _ rfl | exact DW.ref _ _ _ rfl | exact DW.arr _ _ _ rfl | refine DW.int ?_ | refine dvb ?_ | refine dvi ?_ | exact OW.cells rfl rfl (DWl.same rfl) | exact Nat.zero_le _ | omega | skip
  all_goals repeat' (first | refine OW.cells rfl rfl ?_ | exact DW.nilArr _ rfl | refine DWl.cons ?_ ?_ | exact DWl.nil | exact DW.same _ rfl | exact DW.ref _ _ _ rfl | exact DW.arr _ _ _ rfl | exact DW.sub _ _ _ _ rfl | exact DW.mo _ _ rfl | exact DW.nilLst _ | refine DW.aggl ?_ | refine DW.tupl ?_ | refine DW.clol ?_ ?_)
  all_goals try ((conv => whnf); with_reducible first | refine Round.mark ?_ | refine Tells.mark ?_ | refine Retold.mark ?_)
  all_goals try first | (show (_ : Bool) = _; simp_all; done) | (show (_ : Int) < _; simp at *; omega) | (show (_ : Int) ≤ _; simp at *; omega) | (show (_ : Nat) < _; simp at *; omega) | (show (_ : Nat) ≤ _; simp at *; omega)
  conv => whnf
  refine Tri.loop (cpSt t) (fun i => i ≤ t.rows.length) (fun i => t.rows.length - i) 0 (by kernel_rfl) (Weak.list [(0, some 0), (1, some 1), (2, some 2), (3, none)] [] (by kernel_rfl) ?_ ?_) (Nat.zero_le _) ?_
  iterate 2 · repeat' (first | exact rowsC_nil | exact DW.nilArr _ rfl | exact DWl.same rfl | exact DW.same _ rfl | exact DW.ref _ _ _ rfl | exact DW.arr _ _ _ rfl | exact OW.cells rfl rfl (DWl.same rfl) | refine OW.cells rfl rfl ?_ | refine DWl.cons ?_ ?_ | exact DWl.nil | exact DW.nilArr _ rfl | exact DW.nilLst _ | refine DW.clol ?_ ?_ | refine DW.aggl ?_ | refine DW.tupl ?_ | refine DW.int ?_ | refine DW.bool ?_ | refine DW.str ?_ | refine DW.arrE rfl ?_ | ((conv => whnf); first | refine And.intro ?_ ?_ | trivial))
  intro i hi
  have hi : i ≤ t.rows.length := hi
  show dcode _ _ _ _ (cpSt t i) _
  repeat' (first | with_reducible rfl | ((conv => whnf); first | refine And.intro ?_ ?_ | (intro h; first | with_reducible exact tf_no h | with_reducible exact ft_no h | exact Bool.noConfusion h | with_reducible exact h | (have ht : true = true := h; clear ht h) | skip) | ((with_reducible refine SCall.mark ?_); first | refine SCall.data (hc _ ?_) rfl rfl ?_ | refine SCall.scal (hc _ ?_) rfl rfl ?_) | ((with_reducible refine PCall.mark ?_); first | refine PCall.mk (hc _ ?_) rfl rfl ?_) | ((with_reducible refine GCall.mark ?_); first | refine GCall.data (fun _ => hc _ ?_) rfl rfl ?_ | refine GCall.scal (fun _ => hc _ ?_) rfl rfl ?_) | ((with_reducible refine MCall.mark ?_); first | refine MCall.data (fun _ => hc _ ?_) rfl rfl ?_ | refine MCall.plain (PCall.mk (hc _ ?_) rfl rfl ?_)) | ((with_reducible refine Tri.mark ?_); first | (refine Tri.treeX [0, 1, 2, 3] (MX.mv 0 0 (MX.mv 0 2 (MX.mv 0 4 (MX.two 1 1 (MX.mv 1 3 (MX.mv 1 5 (MX.mv 1 6 (MX.mv 2 7 (MX.mv 1 8 (MX.mv 1 9 (MX.mv 1 10 (MX.mv 1 11 MX.done)))))))) 1 3 (MX.two 1 1 (MX.mv 1 5 (MX.mv 1 6 (MX.mv 2 7 (MX.mv 1 8 (MX.mv 1 9 (MX.mv 1 10 (MX.mv 1 11 MX.done))))))) 1 5 (MX.two 1 1 (MX.mv 1 6 (MX.mv 2 7 (MX.mv 1 8 (MX.mv 1 9 (MX.mv 1 10 (MX.mv 1 11 MX.done)))))) 1 6 (MX.two 1 1 (MX.mv 2 7 (MX.mv 1 8 (MX.mv 1 9 (MX.mv 1 10 (MX.mv 1 11 MX.done))))) 2 7 (MX.two 1 1 (MX.mv 1 8 (MX.mv 1 9 (MX.mv 1 10 (MX.mv 1 11 MX.done)))) 1 8 (MX.mv 1 1 (MX.mv 1 9 (MX.mv 1 10 (MX.mv 1 11 MX.done)))))))))))) ?_ (by kernel_rfl) ?_; rfl)) | ((with_reducible refine ECall.mark ?_); first | refine ECall.only ?_ (fun h => nomatch h) | refine ECall.only ?_ ?_) | ((with_reducible refine Drawn.mark ?_); first | (refine Drawn.tree ?_; refine Tri.treeX [0, 1, 2, 3] (MX.mv 0 0 (MX.mv 0 2 (MX.mv 0 4 (MX.two 1 1 (MX.mv 1 3 (MX.mv 1 5 (MX.mv 1 6 (MX.mv 2 7 (MX.mv 1 8 (MX.mv 1 9 (MX.mv 1 10 (MX.mv 1 11 MX.done)))))))) 1 3 (MX.two 1 1 (MX.mv 1 5 (MX.mv 1 6 (MX.mv 2 7 (MX.mv 1 8 (MX.mv 1 9 (MX.mv 1 10 (MX.mv 1 11 MX.done))))))) 1 5 (MX.two 1 1 (MX.mv 1 6 (MX.mv 2 7 (MX.mv 1 8 (MX.mv 1 9 (MX.mv 1 10 (MX.mv 1 11 MX.done)))))) 1 6 (MX.two 1 1 (MX.mv 2 7 (MX.mv 1 8 (MX.mv 1 9 (MX.mv 1 10 (MX.mv 1 11 MX.done))))) 2 7 (MX.two 1 1 (MX.mv 1 8 (MX.mv 1 9 (MX.mv 1 10 (MX.mv 1 11 MX.done)))) 1 8 (MX.mv 1 1 (MX.mv 1 9 (MX.mv 1 10 (MX.mv 1 11 MX.done)))))))))))) ?_ (by kernel_rfl) ?_; rfl) | refine Drawn.quiet (by kernel_rfl) ?_) | refine dloadE_map (([] : List ByteArray)) ?_ ?_ | refine dcell_ok rfl ?_ | refine AppC.new ?_))
  all_goals try ((conv => whnf); with_reducible refine Round.mark ?_)
  all_goals try first | ((with_reducible show Option.isSome (slElem _ _) = true); kernel_rfl) | ((with_reducible show slElem _ _ = some _); kernel_rfl) | ((with_reducible refine enters_mark ?_); kernel_rfl) | (with_reducible assumption) | ((with_reducible show List.all _ DV.one = true); rfl) | ((with_reducible show (_ : Nat) = _); rfl) | ((with_reducible show (_ == true) = true); simpa using h) | ((with_reducible show (_ : Nat) ≤ _); exact Nat.le_of_ble_eq_true rfl) | ((with_reducible show (_ : Int) ≤ _); first | omega | decide) | ((with_reducible show (_ : Int) < _); first | omega | decide) | ((with_reducible show (_ : Nat) < _); omega) | ((with_reducible show (_ : Nat) ≤ _); omega)
  all_goals try (first | (exact of_decide_eq_true (by assumption); done) | (exact lt_of_test (by assumption); done) | ((with_reducible show Option.all _ _ = true); rfl) | (exact rc_c1 (lt_of_test (by assumption)); done) | (exact rc_b2 (Nat.le_trans hi ht.rows); done) | (exact rc_b3 (Nat.le_trans hi ht.rows); done))
  all_goals try (refine Round.go (fun _ => i + 1) (lt_of_test (by assumption)) (cp_mu (by assumption)) (Weak.list [(0, some 0), (1, some 1), (2, some 2), (3, some 5)] [] (by kernel_rfl) ?_ ?_))
  repeat' (first | with_reducible rfl | ((conv => whnf); first | refine And.intro ?_ ?_ | (intro h; first | with_reducible exact tf_no h | with_reducible exact ft_no h | exact Bool.noConfusion h | with_reducible exact h | (have ht : true = true := h; clear ht h) | skip) | ((with_reducible refine ECall.mark ?_); first | refine ECall.only ?_ (fun h => nomatch h) | refine ECall.only ?_ ?_) | ((with_reducible refine Drawn.mark ?_); first | refine Drawn.quiet (by kernel_rfl) ?_) | refine dcell_ok rfl ?_ | refine AppC.new ?_))
  all_goals first | (with_reducible refine enters_mark ?_; kernel_rfl) | (with_reducible refine boolT_mark ?_; kernel_rfl) | rfl | trivial | assumption | exact Nat.le_of_ble_eq_true rfl | (show entersB _ _ = true; kernel_rfl) | exact DW.same _ rfl | exact DW.ref _ _ _ rfl | exact DW.arr _ _ _ rfl | refine DW.int ?_ | refine dvb ?_ | refine dvi ?_ | exact OW.cells rfl rfl (DWl.same rfl) | exact Nat.zero_le _ | omega | skip
  all_goals repeat' (first | refine OW.cells rfl rfl ?_ | exact DW.nilArr _ rfl | refine DWl.cons ?_ ?_ | exact DWl.nil | exact DW.same _ rfl | exact DW.ref _ _ _ rfl | exact DW.arr _ _ _ rfl | exact DW.sub _ _ _ _ rfl | exact DW.mo _ _ rfl | exact DW.nilLst _ | refine DW.aggl ?_ | refine DW.tupl ?_ | refine DW.clol ?_ ?_)
  all_goals try ((conv => whnf); with_reducible first | refine Round.mark ?_ | refine Tells.mark ?_ | refine Retold.mark ?_)
  all_goals try first | (show (_ : Bool) = _; simp_all; done) | (show (_ : Int) < _; simp at *; omega) | (show (_ : Int) ≤ _; simp at *; omega) | (show (_ : Nat) < _; simp at *; omega) | (show (_ : Nat) ≤ _; simp at *; omega)
  all_goals try (first | (exact wsucc (lt_of_test (by assumption)) (Nat.le_trans ht.rows (by decide)); done) | (exact DWl.eq (rowsC_next (lt_of_test (by assumption))) (rowsC_all _); done))
  have hi2 : i = t.rows.length := by have := ge_of_test h; omega
  subst hi2
  conv => whnf
  refine Retold.list [(0, some 3)] [] (.agg [strs t.head, .arr 0 t.rows.length]) [(0, ⟨22, 1, rowsC t.rows⟩)] 1 (by kernel_rfl) ?_ ?_ ⟨rfl, rfl⟩
  iterate 2 · repeat' (first | exact DWl.eq (cp_all2 t) (rowsC_all _) | exact DW.same _ rfl | exact DW.ref _ _ _ rfl | exact DW.arr _ _ _ rfl | exact OW.cells rfl rfl (DWl.same rfl) | refine OW.cells rfl rfl ?_ | refine DWl.cons ?_ ?_ | exact DWl.nil | exact DW.nilArr _ rfl | exact DW.nilLst _ | refine DW.clol ?_ ?_ | refine DW.aggl ?_ | refine DW.tupl ?_ | refine DW.int ?_ | refine DW.bool ?_ | refine DW.str ?_ | refine DW.arrE rfl ?_ | ((conv => whnf); first | refine And.intro ?_ ?_ | trivial))
end Go.Proofs.YtlchjjchgebfiaaGreatDoor
namespace Go.Proofs.YtlchjjchgebfiaaGreatDoor
open Go.RowKit Go.Dl Go.Dl.Stb
attribute [local irreducible] Tri SCall TSem ECall Drawn DFun QSem PSem PCall GCall MCall Round Go.Dl.Weak dloadE OW DWl Tells IntKind.wrap Retold ESem
theorem neg_is {m : Nat} (h : m ≤ 4096) : IntKind.i64.wrap (0 - ((m : Nat) : Int)) = -(m : Int) := by rw [IntKind.wrap_i64]; omega
theorem kt_t {m : Nat} {k x : Int} (e : x = -(m : Int)) (hok : KeyOk m k) (h : (bif (bif k == 0 then true else decide (k < x)) then true else decide ((m : Int) < k)) = true) : False := by
  subst e
  have h1 := hok.2.1
  have h2 := hok.2.2
  rcases bf_t h with h | h
  · rcases bf_t h with h | h
    · exact hok.1 (eq_of_beq h)
    · have := of_decide_eq_true h; omega
  · have := of_decide_eq_true h; omega
theorem kt_f {m : Nat} {k x : Int} (e : x = -(m : Int)) (hok : ¬ KeyOk m k) (h : (bif (bif k == 0 then true else decide (k < x)) then true else decide ((m : Int) < k)) = false) : False := by
  subst e
  obtain ⟨h3, h4⟩ := bf_f h
  obtain ⟨h1, h2⟩ := bf_f h3
  have h2 := of_decide_eq_false h2
  have h4 := of_decide_eq_false h4
  exact hok ⟨(by intro e; subst e; cases h1), by omega, by omega⟩
def kySt (t : Tb) (ks : List Int) (i : Nat) : St := ⟨0, tmOf [(1, ints ks), (2, .ref 0 0), (4, .ref 1 0), (5, int1 0), (6, int1 i)], .of [(0, ⟨25, 2, [strs t.head, rowsD t.rows]⟩), (1, ⟨25, 2, [.v (.slice none 0 0), .v (.slice none 0 0)]⟩)] 2⟩
def srO (t : Tb) (n : Nat) (f : Nat → Nat) : Sto := .of [(0, ⟨25, 2, [.v (.slice none 0 0), .v (.slice none 0 0)]⟩), (1, ⟨22, 1, rwF t.rows n f⟩), (2, ⟨25, 2, [strs t.head, .arr 1 n]⟩)] 3
def srSt (t : Tb) (ks : List Int) (n : Nat) (p : Nat × (Nat → Nat)) : St := ⟨0, tmOf [(1, ints ks), (4, .ref 0 0), (7, .ref 2 0), (8, int1 p.1)], srO t n p.2⟩
def srIn (t : Tb) (ks : List Int) (n i : Nat) (p : Nat × (Nat → Nat)) : St := ⟨0, tmOf [(1, ints ks), (4, .ref 0 0), (7, .ref 2 0), (8, int1 i), (9, int1 p.1)], srO t n p.2⟩
def sortG (t : Tb) (ks : List Int) : Tb := ⟨t.head, (List.range t.rows.length).map fun j => t.rows.getD (insF (ltK ks t.rows) 0 t.rows.length (fun i => i) j) []⟩
attribute [local irreducible] rwF cmpK
set_option maxRecDepth 20000 in
set_option maxHeartbeats 4000000 in
theorem sort27_K (t : Tb) (ks : List Int) (ht : CpOk t) (hk : ks.length ≤ 17592186044416) (hh : (t.head.map strD).length ≤ 4096) (hS : (∀ k ∈ ks, KeyOk (t.head.map strD).length k) → ∀ r ∈ t.rows, RowOk (t.head.map strD).length r) (R : DV) (h1 : (∀ k ∈ ks, KeyOk (t.head.map strD).length k) → R = .tup [tab (sortG t ks), int1 0]) (h2 : ¬ (∀ k ∈ ks, KeyOk (t.head.map strD).length k) → R = .tup [tab ⟨[], []⟩, int1 31]) : DPure Tryz.prog 27 [tab t, ints ks] R := by
  refine DFun.data (DFun.body Tryz.func27 rfl (by kernel_rfl) ?_)
  repeat' (first | with_reducible rfl | ((conv => whnf); first | refine And.intro ?_ ?_ | (intro h; first | with_reducible exact tf_no h | with_reducible exact ft_no h | exact Bool.noConfusion h | with_reducible exact h | (have ht : true = true := h; clear ht h) | skip) | ((with_reducible refine ECall.mark ?_); first | refine ECall.only ?_ (fun h => nomatch h) | refine ECall.only ?_ ?_) | ((with_reducible refine Drawn.mark ?_); first | refine Drawn.quiet (by kernel_rfl) ?_) | refine dcell_ok rfl ?_ | refine AppC.new ?_))
  all_goals first | (with_reducible refine enters_mark ?_; kernel_rfl) | (with_reducible refine boolT_mark ?_; kernel_rfl) | rfl | trivial | assumption | exact Nat.le_of_ble_eq_true rfl | (show entersB _ _ = true; kernel_rfl) | exact DW.same _ rfl | exact DW.ref _ _ _ rfl | exact DW.arr _ _ _ rfl | refine DW.int ?_ | refine dvb ?_ | refine dvi ?_ | exact OW.cells rfl rfl (DWl.same rfl) | exact Nat.zero_le _ | omega | skip
  all_goals repeat' (first | refine OW.cells rfl rfl ?_ | exact DW.nilArr _ rfl | refine DWl.cons ?_ ?_ | exact DWl.nil | exact DW.same _ rfl | exact DW.ref _ _ _ rfl | exact DW.arr _ _ _ rfl | exact DW.sub _ _ _ _ rfl | exact DW.mo _ _ rfl | exact DW.nilLst _ | refine DW.aggl ?_ | refine DW.tupl ?_ | refine DW.clol ?_ ?_)
  all_goals try ((conv => whnf); with_reducible first | refine Round.mark ?_ | refine Tells.mark ?_ | refine Retold.mark ?_)
  all_goals try first | (show (_ : Bool) = _; simp_all; done) | (show (_ : Int) < _; simp at *; omega) | (show (_ : Int) ≤ _; simp at *; omega) | (show (_ : Nat) < _; simp at *; omega) | (show (_ : Nat) ≤ _; simp at *; omega)
  conv => whnf
  refine Tri.loop (kySt t ks) (fun i => i ≤ ks.length ∧ ∀ k ∈ ks.take i, KeyOk (t.head.map strD).length k) (fun i => ks.length - i) 0 (by kernel_rfl) (Go.Dl.Weak.list [(0, some 0), (1, some 1)] [] (by kernel_rfl) ?_ ?_) ⟨Nat.zero_le _, fun k hm => by cases hm⟩ ?_
  iterate 2 · repeat' (first | rfl | exact DW.same _ rfl | exact DW.ref _ _ _ rfl | exact DW.arr _ _ _ rfl | exact OW.cells rfl rfl (DWl.same rfl) | refine OW.cells rfl rfl ?_ | refine DWl.cons ?_ ?_ | exact DWl.nil | exact DW.nilArr _ rfl | exact DW.nilLst _ | refine DW.clol ?_ ?_ | refine DW.aggl ?_ | refine DW.tupl ?_ | refine DW.int ?_ | refine DW.bool ?_ | refine DW.str ?_ | refine DW.arrE rfl ?_ | ((conv => whnf); first | refine And.intro ?_ ?_ | trivial))
  intro i ⟨hi, hpre⟩
  have hi : i ≤ ks.length := hi
  have hpre : ∀ k ∈ ks.take i, KeyOk (t.head.map strD).length k := hpre
  show dcode _ _ _ _ (kySt t ks i) _
  by_cases hil : i < ks.length
  · have hlt := ints_lt hil
    have hin := ints_n hil
    by_cases hok : KeyOk (t.head.map strD).length (ks.getD ((i : Nat) : Int).toNat 0)
    · repeat' (first | with_reducible rfl | ((conv => whnf); first | refine And.intro ?_ ?_ | (intro h; first | with_reducible exact tf_no h | with_reducible exact ft_no h | exact Bool.noConfusion h | with_reducible exact h | (exfalso; exact of_decide_eq_false h hlt) | (exfalso; exact kt_t (neg_is hh) hok h) | (have ht : true = true := h; clear ht h) | skip) | ((with_reducible refine ECall.mark ?_); first | refine ECall.only ?_ (fun h => nomatch h) | refine ECall.only ?_ ?_) | ((with_reducible refine Drawn.mark ?_); first | refine Drawn.quiet (by kernel_rfl) ?_) | refine dloadE_map ((0 : Int)) ?_ ?_ | exact hlt | exact hin | refine dcell_ok rfl ?_ | refine AppC.new ?_))
      all_goals try ((conv => whnf); with_reducible refine Round.mark ?_)
      all_goals try (with_reducible exact tnb h)
      all_goals try first | ((with_reducible show Option.isSome (slElem _ _) = true); kernel_rfl) | ((with_reducible show slElem _ _ = some _); kernel_rfl) | ((with_reducible refine enters_mark ?_); kernel_rfl) | (with_reducible assumption) | ((with_reducible show List.all _ DV.one = true); rfl) | ((with_reducible show (_ : Nat) = _); rfl) | ((with_reducible show (_ == true) = true); simpa using h) | ((with_reducible show (_ : Nat) ≤ _); exact Nat.le_of_ble_eq_true rfl) | ((with_reducible show (_ : Int) ≤ _); first | omega | decide) | ((with_reducible show (_ : Int) < _); first | omega | decide) | ((with_reducible show (_ : Nat) < _); omega) | ((with_reducible show (_ : Nat) ≤ _); omega)
      refine Round.go (fun _ => i + 1) ⟨hil, so_next hil hok hpre⟩ (by show ks.length - (i + 1) < ks.length - i; omega) (Weak.list [(0, some 0), (1, some 1)] [] (by kernel_rfl) ?_ ?_)
      iterate 2 · repeat' (first | exact wsucc hil (by omega) | exact DW.same _ rfl | exact DW.ref _ _ _ rfl | exact DW.arr _ _ _ rfl | exact OW.cells rfl rfl (DWl.same rfl) | refine OW.cells rfl rfl ?_ | refine DWl.cons ?_ ?_ | exact DWl.nil | exact DW.nilArr _ rfl | exact DW.nilLst _ | refine DW.clol ?_ ?_ | refine DW.aggl ?_ | refine DW.tupl ?_ | refine DW.int ?_ | refine DW.bool ?_ | refine DW.str ?_ | refine DW.arrE rfl ?_ | ((conv => whnf); first | refine And.intro ?_ ?_ | trivial))
    · repeat' (first | with_reducible rfl | ((conv => whnf); first | refine And.intro ?_ ?_ | (intro h; first | with_reducible exact tf_no h | with_reducible exact ft_no h | exact Bool.noConfusion h | with_reducible exact h | (exfalso; exact of_decide_eq_false h hlt) | (exfalso; exact kt_f (neg_is hh) hok h) | (have ht : true = true := h; clear ht h) | skip) | ((with_reducible refine ECall.mark ?_); first | refine ECall.only ?_ (fun h => nomatch h) | refine ECall.only ?_ ?_) | ((with_reducible refine Drawn.mark ?_); first | refine Drawn.quiet (by kernel_rfl) ?_) | refine dloadE_map ((0 : Int)) ?_ ?_ | exact hlt | exact hin | refine dcell_ok rfl ?_ | refine AppC.new ?_))
      all_goals try ((conv => whnf); with_reducible refine Round.mark ?_)
      all_goals try (with_reducible exact tnb h)
      all_goals try first | ((with_reducible show Option.isSome (slElem _ _) = true); kernel_rfl) | ((with_reducible show slElem _ _ = some _); kernel_rfl) | ((with_reducible refine enters_mark ?_); kernel_rfl) | (with_reducible assumption) | ((with_reducible show List.all _ DV.one = true); rfl) | ((with_reducible show (_ : Nat) = _); rfl) | ((with_reducible show (_ == true) = true); simpa using h) | ((with_reducible show (_ : Nat) ≤ _); exact Nat.le_of_ble_eq_true rfl) | ((with_reducible show (_ : Int) ≤ _); first | omega | decide) | ((with_reducible show (_ : Int) < _); first | omega | decide) | ((with_reducible show (_ : Nat) < _); omega) | ((with_reducible show (_ : Nat) ≤ _); omega)
      conv => whnf
      exact Tells.of (h2 (so_bad hil hok)) (Tells.mk (DW.tupl (DWl.cons (DW.aggl (DWl.cons (DW.nilLst _) (DWl.cons (DW.nilLst _) DWl.nil))) (DWl.cons (DW.same _ rfl) DWl.nil))))
  · have hil2 : i = ks.length := by omega
    subst hil2
    rw [List.take_length] at hpre
    have hrw := hS hpre
    repeat' (first | with_reducible rfl | ((conv => whnf); first | refine And.intro ?_ ?_ | (intro h; first | with_reducible exact tf_no h | with_reducible exact ft_no h | exact Bool.noConfusion h | with_reducible exact h | (exfalso; exact hil (by rw [List.length_map] at h; exact lt_int h)) | (have ht : true = true := h; clear ht h) | skip) | ((with_reducible refine SCall.mark ?_); first | refine SCall.at [] (fun m => [(m, ⟨22, 1, rowsC t.rows⟩)]) (fun m => .agg [strs t.head, .arr m t.rows.length]) 1 (copy11_S t ht) (by kernel_rfl) trivial (DWl.cons (DW.aggl (DWl.cons (DW.same _ rfl) (DWl.cons (DW.same _ rfl) DWl.nil))) DWl.nil) (DW.aggl (DWl.cons (DW.same _ rfl) (DWl.cons (DW.arr _ _ _ rfl) DWl.nil))) ⟨OW.cells rfl rfl (DWl.eq rfl (rowsC_all _)), trivial⟩ ?_) | ((with_reducible refine ECall.mark ?_); first | refine ECall.only ?_ (fun h => nomatch h) | refine ECall.only ?_ ?_) | ((with_reducible refine Drawn.mark ?_); first | refine Drawn.quiet (by kernel_rfl) ?_) | refine dcell_ok rfl ?_ | refine AppC.new ?_))
    all_goals try first | ((with_reducible show Option.isSome (slElem _ _) = true); kernel_rfl) | ((with_reducible show slElem _ _ = some _); kernel_rfl) | ((with_reducible refine enters_mark ?_); kernel_rfl) | (with_reducible assumption) | ((with_reducible show List.all _ DV.one = true); rfl) | ((with_reducible show (_ : Nat) = _); rfl) | ((with_reducible show (_ == true) = true); simpa using h) | ((with_reducible show (_ : Nat) ≤ _); exact Nat.le_of_ble_eq_true rfl) | ((with_reducible show (_ : Int) ≤ _); first | omega | decide) | ((with_reducible show (_ : Int) < _); first | omega | decide) | ((with_reducible show (_ : Nat) < _); omega) | ((with_reducible show (_ : Nat) ≤ _); omega)
    all_goals try (first | exact Nat.le_refl 2 | (show (2 : Nat) ≤ 2; exact Nat.le_refl 2))
    conv => whnf
    have hn := ht.rows
    generalize hN : t.rows.length = n at hn
    have hrow : ∀ p, p < n → RowOk (t.head.map strD).length (t.rows.getD p []) := fun p hp => by
      rw [← hN] at hp
      rw [List.getD_eq_getElem?_getD, List.getElem?_eq_getElem hp]
      exact hrw _ (List.getElem_mem hp)
    have hid : rowsC t.rows = rwF t.rows n fun i => i := by rw [← hN]; exact rwF_id _
    have hfin : sortG t ks = ⟨t.head, (List.range n).map fun j => t.rows.getD (insF (ltK ks t.rows) 0 n (fun i => i) j) []⟩ := by rw [← hN]; rfl
    refine Tri.loop (srSt t ks n) (fun p => 0 + 1 ≤ p.1 ∧ (p.1 ≤ n ∨ p.1 = 0 + 1) ∧ Cl n p.2 ∧ insOut (ltK ks t.rows) 0 (n - p.1) p.1 p.2 = insF (ltK ks t.rows) 0 n (fun i => i)) (fun p => n - p.1) (0 + 1, fun i => i) (by kernel_rfl) (Weak.list [(0, some 1), (1, some 2), (2, some 3)] [] (by kernel_rfl) ?_ ?_) ⟨Nat.le_refl _, .inr rfl, fun _ h => h, rfl⟩ ?_
    iterate 2 · repeat' (first | exact DWl.eq hid (rwF_all _ _ _) | exact DW.same _ rfl | exact DW.ref _ _ _ rfl | exact DW.arr _ _ _ rfl | exact OW.cells rfl rfl (DWl.same rfl) | refine OW.cells rfl rfl ?_ | refine DWl.cons ?_ ?_ | exact DWl.nil | exact DW.nilArr _ rfl | exact DW.nilLst _ | refine DW.clol ?_ ?_ | refine DW.aggl ?_ | refine DW.tupl ?_ | refine DW.int ?_ | refine DW.bool ?_ | refine DW.str ?_ | refine DW.arrE rfl ?_ | ((conv => whnf); first | refine And.intro ?_ ?_ | trivial))
    intro ⟨i, g⟩ ⟨hi1, hi2, hg, he⟩
    show dcode _ _ _ _ (srSt t ks n (i, g)) _
    repeat' (first | with_reducible rfl | ((conv => whnf); first | refine And.intro ?_ ?_ | (intro h; first | with_reducible exact tf_no h | with_reducible exact ft_no h | exact Bool.noConfusion h | with_reducible exact h | (have ht : true = true := h; clear ht h) | skip) | ((with_reducible refine ECall.mark ?_); first | refine ECall.only ?_ (fun h => nomatch h) | refine ECall.only ?_ ?_) | ((with_reducible refine Drawn.mark ?_); first | refine Drawn.quiet (by kernel_rfl) ?_) | refine dcell_ok rfl ?_ | refine AppC.new ?_))
    all_goals try ((conv => whnf); with_reducible refine Round.mark ?_)
    all_goals try first | ((with_reducible show Option.isSome (slElem _ _) = true); kernel_rfl) | ((with_reducible show slElem _ _ = some _); kernel_rfl) | ((with_reducible refine enters_mark ?_); kernel_rfl) | (with_reducible assumption) | ((with_reducible show List.all _ DV.one = true); rfl) | ((with_reducible show (_ : Nat) = _); rfl) | ((with_reducible show (_ == true) = true); simpa using h) | ((with_reducible show (_ : Nat) ≤ _); exact Nat.le_of_ble_eq_true rfl) | ((with_reducible show (_ : Int) ≤ _); first | omega | decide) | ((with_reducible show (_ : Int) < _); first | omega | decide) | ((with_reducible show (_ : Nat) < _); omega) | ((with_reducible show (_ : Nat) ≤ _); omega)
    · have hib : i < n := lt_int h
      conv => whnf
      refine Tri.loop (srIn t ks n i) (fun q => q.1 ≤ i ∧ Cl n q.2 ∧ insIn (ltK ks t.rows) 0 q.1 q.2 = insIn (ltK ks t.rows) 0 i g) (fun q => q.1) (i, g) (by kernel_rfl) (Weak.list [(0, some 0), (1, some 1), (2, some 2)] [] (by kernel_rfl) ?_ ?_) ⟨Nat.le_refl _, hg, rfl⟩ ?_
      iterate 2 · repeat' (first | exact DWl.eq rfl (rwF_all _ _ _) | exact DW.same _ rfl | exact DW.ref _ _ _ rfl | exact DW.arr _ _ _ rfl | exact OW.cells rfl rfl (DWl.same rfl) | refine OW.cells rfl rfl ?_ | refine DWl.cons ?_ ?_ | exact DWl.nil | exact DW.nilArr _ rfl | exact DW.nilLst _ | refine DW.clol ?_ ?_ | refine DW.aggl ?_ | refine DW.tupl ?_ | refine DW.int ?_ | refine DW.bool ?_ | refine DW.str ?_ | refine DW.arrE rfl ?_ | ((conv => whnf); first | refine And.intro ?_ ?_ | trivial))
      intro ⟨j, g'⟩ ⟨hj, hg', he'⟩
      have hj : j ≤ i := hj
      cases j with
      | zero =>
        show dcode _ _ _ _ (srIn t ks n i (0, g')) _
        repeat' (first | with_reducible rfl | ((conv => whnf); first | refine And.intro ?_ ?_ | (intro h; first | with_reducible exact tf_no h | with_reducible exact ft_no h | exact Bool.noConfusion h | with_reducible exact h | (exfalso; simp at h; done) | (have ht : true = true := h; clear ht h) | skip) | ((with_reducible refine Tri.mark ?_); first | (refine Tri.treeX [] (MX.mv 0 0 (MX.mv 0 1 (MX.mv 0 2 (MX.mv 0 3 (MX.mv 0 4 (MX.mv 0 5 (MX.mv 0 6 (MX.mv 0 7 (MX.mv 0 8 (MX.mv 0 9 (MX.mv 0 10 (MX.mv 0 11 (MX.mv 0 12 (MX.mv 0 13 (MX.mv 0 14 (MX.mv 2 15 (MX.mv 0 16 MX.done))))))))))))))))) ?_ (by kernel_rfl) ?_; rfl)) | ((with_reducible refine ECall.mark ?_); first | refine ECall.alt (bl false) (fun hg => absurd hg (no_gt 0)) ?_ | refine ECall.only ?_ (fun h => nomatch h) | refine ECall.only ?_ ?_) | ((with_reducible refine Drawn.mark ?_); first | (refine Drawn.tree ?_; refine Tri.treeX [] (MX.mv 0 0 (MX.mv 0 1 (MX.mv 0 2 (MX.mv 0 3 (MX.mv 0 4 (MX.mv 0 5 (MX.mv 0 6 (MX.mv 0 7 (MX.mv 0 8 (MX.mv 0 9 (MX.mv 0 10 (MX.mv 0 11 (MX.mv 0 12 (MX.mv 0 13 (MX.mv 0 14 (MX.mv 2 15 (MX.mv 0 16 MX.done))))))))))))))))) ?_ (by kernel_rfl) ?_; rfl) | refine Drawn.quiet (by kernel_rfl) ?_) | refine dcell_ok rfl ?_ | refine dcell_at (strs []) (fun hg => absurd hg (no_gt 0)) ?_ | refine dcell_ok rfl ?_ | refine AppC.new ?_))
        all_goals try ((conv => whnf); with_reducible refine Round.mark ?_)
        all_goals try first | ((with_reducible show Option.isSome (slElem _ _) = true); kernel_rfl) | ((with_reducible show slElem _ _ = some _); kernel_rfl) | ((with_reducible refine enters_mark ?_); kernel_rfl) | (with_reducible assumption) | ((with_reducible show List.all _ DV.one = true); rfl) | ((with_reducible show (_ : Nat) = _); rfl) | ((with_reducible show (_ == true) = true); simpa using h) | ((with_reducible show (_ : Nat) ≤ _); exact Nat.le_of_ble_eq_true rfl) | ((with_reducible show (_ : Int) ≤ _); first | omega | decide) | ((with_reducible show (_ : Int) < _); first | omega | decide) | ((with_reducible show (_ : Nat) < _); omega) | ((with_reducible show (_ : Nat) ≤ _); omega)
        all_goals try (exact absurd h (no_gt 0); done)
        refine Round.go (fun _ => (i + 1, g')) ⟨by show 0 + 1 ≤ i + 1; omega, .inl hib, hg', by rw [← he, insOut_s hib, ← he', insIn_z]⟩ (by show n - (i + 1) < n - i; omega) (Weak.list [(0, some 0), (1, some 1), (2, some 2)] [] (by kernel_rfl) ?_ ?_)
        iterate 2 · repeat' (first | exact wsucc hib (by omega) | exact DWl.eq rfl (rwF_all _ _ _) | exact DW.same _ rfl | exact DW.ref _ _ _ rfl | exact DW.arr _ _ _ rfl | exact OW.cells rfl rfl (DWl.same rfl) | refine OW.cells rfl rfl ?_ | refine DWl.cons ?_ ?_ | exact DWl.nil | exact DW.nilArr _ rfl | exact DW.nilLst _ | refine DW.clol ?_ ?_ | refine DW.aggl ?_ | refine DW.tupl ?_ | refine DW.int ?_ | refine DW.bool ?_ | refine DW.str ?_ | refine DW.arrE rfl ?_ | ((conv => whnf); first | refine And.intro ?_ ?_ | trivial))
      | succ j =>
        have hjn : j + 1 < n := by omega
        have hj4 : j ≤ 4096 := by omega
        have hra := hrow (g' (((j + 1 : Nat) : Int).toNat * 1)) (by rw [ix_1]; exact hg' _ hjn)
        have hrb := hrow (g' ((IntKind.i64.wrap (((j + 1 : Nat) : Int) - 1)).toNat * 1)) (by rw [ix_0 hj4]; exact hg' j (by omega))
        have hah := ahead64_D hra hrb ks hk hpre hh
        show dcode _ _ _ _ (srIn t ks n i (j + 1, g')) _
        repeat' (first | with_reducible rfl | ((conv => whnf); first | refine And.intro ?_ ?_ | (intro h; first | with_reducible exact tf_no h | with_reducible exact ft_no h | exact Bool.noConfusion h | with_reducible exact h | (exfalso; simp at h; done) | (have ht : true = true := h; clear ht h) | skip) | ((with_reducible refine Tri.mark ?_); first | (refine Tri.treeX [] (MX.mv 0 0 (MX.mv 0 1 (MX.mv 0 2 (MX.mv 0 3 (MX.mv 0 4 (MX.mv 0 5 (MX.mv 0 6 (MX.mv 0 7 (MX.mv 0 8 (MX.mv 0 9 (MX.mv 0 10 (MX.mv 0 11 (MX.mv 0 12 (MX.mv 0 13 (MX.mv 0 14 (MX.mv 2 15 (MX.mv 0 16 MX.done))))))))))))))))) ?_ (by kernel_rfl) ?_; rfl) | (refine Tri.treeX [1] (MX.mv 0 0 (MX.mv 0 1 (MX.mv 0 2 (MX.mv 0 3 (MX.mv 0 4 (MX.mv 0 5 (MX.mv 0 6 (MX.mv 0 7 (MX.mv 1 8 (MX.mv 0 9 (MX.mv 1 10 MX.done))))))))))) ?_ (by kernel_rfl) ?_; rfl)) | ((with_reducible refine ECall.mark ?_); first | refine ECall.alt (bl (decide (cmpK ks (t.rows.getD (g' (((j + 1 : Nat) : Int).toNat * 1)) []) (t.rows.getD (g' ((IntKind.i64.wrap (((j + 1 : Nat) : Int) - 1)).toNat * 1)) []) < 0))) (fun hg => SCall.data hah rfl rfl ?_) ?_ | refine ECall.only ?_ (fun h => nomatch h) | refine ECall.only ?_ ?_) | ((with_reducible refine Drawn.mark ?_); first | (refine Drawn.tree ?_; refine Tri.treeX [] (MX.mv 0 0 (MX.mv 0 1 (MX.mv 0 2 (MX.mv 0 3 (MX.mv 0 4 (MX.mv 0 5 (MX.mv 0 6 (MX.mv 0 7 (MX.mv 0 8 (MX.mv 0 9 (MX.mv 0 10 (MX.mv 0 11 (MX.mv 0 12 (MX.mv 0 13 (MX.mv 0 14 (MX.mv 2 15 (MX.mv 0 16 MX.done))))))))))))))))) ?_ (by kernel_rfl) ?_; rfl) | (refine Drawn.tree ?_; refine Tri.treeX [1] (MX.mv 0 0 (MX.mv 0 1 (MX.mv 0 2 (MX.mv 0 3 (MX.mv 0 4 (MX.mv 0 5 (MX.mv 0 6 (MX.mv 0 7 (MX.mv 1 8 (MX.mv 0 9 (MX.mv 1 10 MX.done))))))))))) ?_ (by kernel_rfl) ?_; rfl) | refine Drawn.quiet (by kernel_rfl) ?_) | refine dcell_ok rfl ?_ | refine dcell_at _ (fun _ => rwF_get ?_) ?_ | refine dcell_ok rfl ?_ | refine AppC.new ?_))
        all_goals try ((conv => whnf); with_reducible refine Round.mark ?_)
        all_goals try (first | ((with_reducible refine enters_mark ?_); kernel_rfl) | ((with_reducible show Option.all _ _ = true); rfl) | (with_reducible exact ix_a hjn hn) | (with_reducible exact ix_b hjn hn) | (with_reducible exact ix_c hjn hn) | (with_reducible exact ix_d t.rows g' hjn) | (with_reducible exact ix_e t.rows g' hjn hn _ _))
        all_goals try first | ((with_reducible show Option.isSome (slElem _ _) = true); kernel_rfl) | ((with_reducible show slElem _ _ = some _); kernel_rfl) | ((with_reducible refine enters_mark ?_); kernel_rfl) | (with_reducible assumption) | ((with_reducible show List.all _ DV.one = true); rfl) | ((with_reducible show (_ : Nat) = _); rfl) | ((with_reducible show (_ == true) = true); simpa using h) | ((with_reducible show (_ : Nat) ≤ _); exact Nat.le_of_ble_eq_true rfl) | ((with_reducible show (_ : Int) ≤ _); first | omega | decide) | ((with_reducible show (_ : Int) < _); first | omega | decide) | ((with_reducible show (_ : Nat) < _); omega) | ((with_reducible show (_ : Nat) ≤ _); omega)
        · have hc := cond_is (a := 0) hj4 h
          refine Round.go (fun _ => (j, swf g' (j + 1) j)) ⟨by show j ≤ i; omega, hg'.swf hjn (by omega), by rw [← he', insIn_t hc]⟩ (Nat.lt_succ_self _) (Weak.list [(0, some 0), (1, some 1), (2, some 2)] [] (by kernel_rfl) ?_ ?_)
          iterate 2 · repeat' (first | exact ix_w hj4 | exact DWl.eq (swap_eq hj4) (rwF_all _ _ _) | exact DW.same _ rfl | exact DW.ref _ _ _ rfl | exact DW.arr _ _ _ rfl | exact OW.cells rfl rfl (DWl.same rfl) | refine OW.cells rfl rfl ?_ | refine DWl.cons ?_ ?_ | exact DWl.nil | exact DW.nilArr _ rfl | exact DW.nilLst _ | refine DW.clol ?_ ?_ | refine DW.aggl ?_ | refine DW.tupl ?_ | refine DW.int ?_ | refine DW.bool ?_ | refine DW.str ?_ | refine DW.arrE rfl ?_ | ((conv => whnf); first | refine And.intro ?_ ?_ | trivial))
        · have hc := cond_is (a := 0) hj4 h
          refine Round.go (fun _ => (i + 1, g')) ⟨by show 0 + 1 ≤ i + 1; omega, .inl hib, hg', by rw [← he, insOut_s hib, ← he', insIn_f hc]⟩ (by show n - (i + 1) < n - i; omega) (Weak.list [(0, some 0), (1, some 1), (2, some 2)] [] (by kernel_rfl) ?_ ?_)
          iterate 2 · repeat' (first | exact wsucc hib (by omega) | exact DWl.eq rfl (rwF_all _ _ _) | exact DW.same _ rfl | exact DW.ref _ _ _ rfl | exact DW.arr _ _ _ rfl | exact OW.cells rfl rfl (DWl.same rfl) | refine OW.cells rfl rfl ?_ | refine DWl.cons ?_ ?_ | exact DWl.nil | exact DW.nilArr _ rfl | exact DW.nilLst _ | refine DW.clol ?_ ?_ | refine DW.aggl ?_ | refine DW.tupl ?_ | refine DW.int ?_ | refine DW.bool ?_ | refine DW.str ?_ | refine DW.arrE rfl ?_ | ((conv => whnf); first | refine And.intro ?_ ?_ | trivial))
    · have e0 : insOut (ltK ks t.rows) 0 (n - i) i g = g := by rw [show n - i = 0 by have := ge_int h; omega]; exact insOut_0 _ _ _ _
      have eg : g = insF (ltK ks t.rows) 0 n fun i => i := e0.symm.trans he
      repeat' (first | with_reducible rfl | ((conv => whnf); first | refine And.intro ?_ ?_ | (intro h; first | with_reducible exact tf_no h | with_reducible exact ft_no h | exact Bool.noConfusion h | with_reducible exact h | (have ht : true = true := h; clear ht h) | skip) | ((with_reducible refine ECall.mark ?_); first | refine ECall.only ?_ (fun h => nomatch h) | refine ECall.only ?_ ?_) | ((with_reducible refine Drawn.mark ?_); first | refine Drawn.quiet (by kernel_rfl) ?_) | refine dcell_ok rfl ?_ | refine AppC.new ?_))
      all_goals try first | ((with_reducible show Option.isSome (slElem _ _) = true); kernel_rfl) | ((with_reducible show slElem _ _ = some _); kernel_rfl) | ((with_reducible refine enters_mark ?_); kernel_rfl) | (with_reducible assumption) | ((with_reducible show List.all _ DV.one = true); rfl) | ((with_reducible show (_ : Nat) = _); rfl) | ((with_reducible show (_ == true) = true); simpa using h) | ((with_reducible show (_ : Nat) ≤ _); exact Nat.le_of_ble_eq_true rfl) | ((with_reducible show (_ : Int) ≤ _); first | omega | decide) | ((with_reducible show (_ : Int) < _); first | omega | decide) | ((with_reducible show (_ : Nat) < _); omega) | ((with_reducible show (_ : Nat) ≤ _); omega)
      conv => whnf
      have hR := (h1 hpre).trans (congrArg (fun x => DV.tup [tab x, int1 0]) hfin)
      exact Tells.of hR (Tells.mk (DW.tupl (DWl.cons (DW.aggl (DWl.cons (DW.same _ rfl) (DWl.cons (DW.pubM (l := (List.range n).map fun j => t.rows.getD (insF (ltK ks t.rows) 0 n (fun i => i) j) []) (f := rowD) rfl (by rw [List.length_map, List.length_range]) rfl rfl rowRow ((congrArg (rwF t.rows n) eg).trans ((rwF_is _ _ _).trans (rowsC_eq _)))) DWl.nil))) (DWl.cons (DW.same _ rfl) DWl.nil))))
end Go.Proofs.YtlchjjchgebfiaaGreatDoor
