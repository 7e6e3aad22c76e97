/- The stable sort of rows. -/
import Derived.Test.YtlchjjchgebfiaaGreatDoorPkL
import Derived.Test.YtlchjjchgebfiaaGreatDoorPkH
import Derived.Test.YtlchjjchgebfiaaGreatDoorDp37
import Derived.MapKept

namespace Go.Proofs.YtlchjjchgebfiaaGreatDoor
open Go.RowKit Go.Dl Go.Dl.Stb
attribute [local irreducible] Tri SCall TSem ECall Drawn DFun QSem PSem PCall GCall MCall Round Go.Dl.Weak dloadE OW DWl Tells IntKind.wrap Retold ESem
theorem insIn_cl {n a : Nat} {lt : Nat → Nat → Bool} : ∀ (j : Nat) (f : Nat → Nat), j < n → Cl n f → Cl n (insIn lt a j f)
  | 0, _, _, h => h
  | j + 1, f, hj, h => by
    rw [insIn]
    split
    · exact insIn_cl j _ (by omega) (h.swf hj (by omega))
    · exact h
theorem insOut_cl {n a : Nat} {lt : Nat → Nat → Bool} : ∀ (k i : Nat) (f : Nat → Nat), i + k ≤ n → Cl n f → Cl n (insOut lt a k i f)
  | 0, _, _, _, h => h
  | k + 1, i, f, hk, h => insOut_cl k (i + 1) _ (by omega) (insIn_cl i f (by omega) h)
theorem insF_cl {n a b : Nat} {lt : Nat → Nat → Bool} {f : Nat → Nat} (hb : b ≤ n) (h : Cl n f) : Cl n (insF lt a b f) := by
  unfold insF
  rcases Nat.lt_or_ge b (a + 1) with e | e
  · rw [show b - (a + 1) = 0 by omega]; exact h
  · exact insOut_cl _ _ _ (by omega) h
theorem stB_t {lt : Nat → Nat → Bool} {n k a : Nat} {g : Nat → Nat} (c : a + 20 ≤ n) : stB lt n (k + 1) a g = stB lt n k (a + 20) (insF lt a (a + 20) g) := by rw [stB, if_pos c]
theorem stB_f {lt : Nat → Nat → Bool} {n k a : Nat} {g : Nat → Nat} (c : ¬ a + 20 ≤ n) : stB lt n (k + 1) a g = insF lt a n g := by rw [stB, if_neg c]
theorem stM_t {lt : Nat → Nat → Bool} {n bs k a : Nat} {g : Nat → Nat} (c : a + 2 * bs ≤ n) : Stb.stM lt n bs (k + 1) a g = Stb.stM lt n bs k (a + 2 * bs) (symF lt (2 * bs) a (a + bs) (a + 2 * bs) g) := by rw [Stb.stM, if_pos c]
theorem stM_f {lt : Nat → Nat → Bool} {n bs k a : Nat} {g : Nat → Nat} (c : ¬ a + 2 * bs ≤ n) (d : a + bs < n) : Stb.stM lt n bs (k + 1) a g = symF lt (n - a) a (a + bs) n g := by rw [Stb.stM, if_neg c, if_pos d]
theorem stM_e {lt : Nat → Nat → Bool} {n bs k a : Nat} {g : Nat → Nat} (c : ¬ a + 2 * bs ≤ n) (d : ¬ a + bs < n) : Stb.stM lt n bs (k + 1) a g = g := by rw [Stb.stM, if_neg c, if_neg d]
theorem stL_t {lt : Nat → Nat → Bool} {n k bs : Nat} {g : Nat → Nat} (c : bs < n) : stL lt n (k + 1) bs g = stL lt n k (2 * bs) (Stb.stM lt n bs (n + 1) 0 g) := by rw [stL, if_pos c]
theorem stL_f {lt : Nat → Nat → Bool} {n k bs : Nat} {g : Nat → Nat} (c : ¬ bs < n) : stL lt n (k + 1) bs g = g := by rw [stL, if_neg c]
theorem le_t {x n : Nat} (c : x ≤ n) (h : decide ((x : Int) ≤ (n : Int)) = false) : False := by have := of_decide_eq_false h; omega
theorem le_f {x n : Nat} (c : ¬ x ≤ n) (h : decide ((x : Int) ≤ (n : Int)) = true) : False := by have := of_decide_eq_true h; omega
theorem w20 {a : Nat} (h : a ≤ 50000) : IntKind.i64.wrap (((a + 20 : Nat) : Int) + 20) = ((a + 20 + 20 : Nat) : Int) := by rw [IntKind.wrap_i64]; omega
theorem w2 {x : Nat} (h : x ≤ 50000) : IntKind.i64.wrap (2 * (x : Int)) = ((2 * x : Nat) : Int) := by rw [IntKind.wrap_i64]; omega
theorem w2' {x : Nat} (h : x ≤ 50000) : IntKind.i64.wrap ((x : Int) * 2) = ((2 * x : Nat) : Int) := by rw [IntKind.wrap_i64]; omega
theorem w2a {a x : Nat} (h : x ≤ 50000) (h2 : a ≤ 50000) : IntKind.i64.wrap (((a + 2 * x : Nat) : Int) + IntKind.i64.wrap (2 * (x : Int))) = ((a + 2 * x + 2 * x : Nat) : Int) := by rw [w2 h, IntKind.wrap_i64]; omega
theorem w2z {x : Nat} (h : x ≤ 50000) : IntKind.i64.wrap (2 * (x : Int)) = ((0 + 2 * x : Nat) : Int) := by rw [w2 h]; omega
theorem ws_t {a x n : Nat} (ha : a + x ≤ 100000) (c : a + x < n) (h : decide (IntKind.i64.wrap ((a : Int) + (x : Int)) < (n : Int)) = false) : False := by rw [sx_w ha] at h; have := of_decide_eq_false h; omega
theorem ws_f {a x n : Nat} (ha : a + x ≤ 100000) (c : ¬ a + x < n) (h : decide (IntKind.i64.wrap ((a : Int) + (x : Int)) < (n : Int)) = true) : False := by rw [sx_w ha] at h; have := of_decide_eq_true h; omega
def b1St (ks : List Int) (rows : List (List ByteArray)) (n : Nat) (p : Nat × (Nat → Nat)) : St := ⟨⟨3, []⟩, tmOf [(0, .arr 0 n), (1, int1 n), (2, .clo (.func 63) [] [.ref 1 0]), (6, int1 20), (7, int1 p.1), (8, int1 (p.1 + 20 : Nat))], .of (stO ks rows n p.2) 3⟩
def b2St (ks : List Int) (rows : List (List ByteArray)) (n : Nat) (p : Nat × (Nat → Nat)) : St := ⟨⟨3, []⟩, tmOf [(0, .arr 0 n), (1, int1 n), (2, .clo (.func 63) [] [.ref 1 0]), (6, int1 p.1)], .of (stO ks rows n p.2) 3⟩
def b3St (ks : List Int) (rows : List (List ByteArray)) (n bs : Nat) (p : Nat × (Nat → Nat)) : St := ⟨⟨3, []⟩, tmOf [(0, .arr 0 n), (1, int1 n), (2, .clo (.func 63) [] [.ref 1 0]), (6, int1 bs), (7, int1 p.1), (8, int1 (p.1 + 2 * bs : Nat))], .of (stO ks rows n p.2) 3⟩
attribute [local irreducible] rwF chC insF symF stB Stb.stM stL
set_option maxRecDepth 20000 in
set_option maxHeartbeats 4000000 in
theorem stab94_S {ks : List Int} {rows : List (List ByteArray)} {n : Nat} (hS : SrtOk ks rows n) {f : Nat → Nat} (hf : Cl n f) :
    SCall Tryz.prog 94 [.arr 0 n, int1 n, .clo (.func 63) [] [.ref 1 0]] (.of (stO ks rows n f) 3) fun r' s' => r' = .tup [] ∧ s' = .of (stO ks rows n (stL (ltK ks rows) n (n + 1) 20 (stB (ltK ks rows) n (n + 1) 0 f))) 3 := by
  have hn := hS.n
  refine SCall.retell (SCall.run Tryz.func94 rfl (Nat.le_of_ble_eq_true rfl) (by kernel_rfl) ?_)
  repeat' (first | with_reducible rfl | ((conv => whnf); first | refine And.intro ?_ ?_ | (intro h; first | with_reducible exact tf_no h | with_reducible exact ft_no h | exact Bool.noConfusion h | with_reducible exact h | (have ht : true = true := h; clear ht h) | skip) | ((with_reducible refine ECall.mark ?_); first | refine ECall.only ?_ (fun h => nomatch h) | refine ECall.only ?_ ?_) | ((with_reducible refine Drawn.mark ?_); first | refine Drawn.quiet (by kernel_rfl) ?_) | refine dcell_ok rfl ?_ | refine AppC.new ?_))
  all_goals first | (with_reducible refine enters_mark ?_; kernel_rfl) | (with_reducible refine boolT_mark ?_; kernel_rfl) | rfl | trivial | assumption | exact Nat.le_of_ble_eq_true rfl | (show entersB _ _ = true; kernel_rfl) | exact DW.same _ rfl | exact DW.ref _ _ _ rfl | exact DW.arr _ _ _ rfl | refine DW.int ?_ | refine dvb ?_ | refine dvi ?_ | exact OW.cells rfl rfl (DWl.same rfl) | exact Nat.zero_le _ | omega | skip
  all_goals repeat' (first | refine OW.cells rfl rfl ?_ | exact DW.nilArr _ rfl | refine DWl.cons ?_ ?_ | exact DWl.nil | exact DW.same _ rfl | exact DW.ref _ _ _ rfl | exact DW.arr _ _ _ rfl | exact DW.sub _ _ _ _ rfl | exact DW.mo _ _ rfl | exact DW.nilLst _ | refine DW.aggl ?_ | refine DW.tupl ?_ | refine DW.clol ?_ ?_)
  all_goals try ((conv => whnf); with_reducible first | refine Round.mark ?_ | refine Tells.mark ?_ | refine Retold.mark ?_)
  all_goals try first | (show (_ : Bool) = _; simp_all; done) | (show (_ : Int) < _; simp at *; omega) | (show (_ : Int) ≤ _; simp at *; omega) | (show (_ : Nat) < _; simp at *; omega) | (show (_ : Nat) ≤ _; simp at *; omega)
  conv => whnf
  refine Tri.loop (b1St ks rows n) (fun p => p.1 ≤ n ∧ Cl n p.2 ∧ ∃ k, n - p.1 < k ∧ stB (ltK ks rows) n k p.1 p.2 = stB (ltK ks rows) n (n + 1) 0 f) (fun p => n - p.1) (0, f) (by kernel_rfl) (Go.Dl.Weak.list [] [] (by kernel_rfl) ?_ ?_) ⟨Nat.zero_le _, hf, n + 1, by show n - 0 < n + 1; omega, rfl⟩ ?_
  iterate 2 · repeat' (first | rfl | exact DWl.eq rfl (chC_all _) | exact DWl.eq rfl (rwF_all _ _ _) | exact DW.same _ rfl | exact DW.ref _ _ _ rfl | exact DW.arr _ _ _ rfl | exact OW.cells rfl rfl (DWl.same rfl) | refine OW.cells rfl rfl ?_ | refine DWl.cons ?_ ?_ | exact DWl.nil | exact DW.nilArr _ rfl | exact DW.nilLst _ | refine DW.clol ?_ ?_ | refine DW.aggl ?_ | refine DW.tupl ?_ | refine DW.int ?_ | refine DW.bool ?_ | refine DW.str ?_ | refine DW.arrE rfl ?_ | ((conv => whnf); first | refine And.intro ?_ ?_ | trivial))
  intro ⟨a, g⟩ ⟨ha, hg, hk⟩
  have ha : a ≤ n := ha
  have hg : Cl n g := hg
  obtain ⟨k, hk, he⟩ := hk
  have hk : n - a < k := hk
  have he : stB (ltK ks rows) n k a g = stB (ltK ks rows) n (n + 1) 0 f := he
  obtain ⟨k, rfl⟩ : ∃ c, k = c + 1 := ⟨k - 1, by omega⟩
  show dcode _ _ _ _ (b1St ks rows n (a, g)) _
  by_cases c : a + 20 ≤ n
  · repeat' (first | with_reducible rfl | ((conv => whnf); first | refine And.intro ?_ ?_ | (intro h; first | with_reducible exact tf_no h | with_reducible exact ft_no h | exact Bool.noConfusion h | with_reducible exact h | (exfalso; exact le_t c h) | (have ht : true = true := h; clear ht h) | skip) | ((with_reducible refine SCall.mark ?_); first | refine SCall.at [0, 1, 2] (fun _ => stO ks rows n (insF (ltK ks rows) a (a + 20) g)) (fun _ => .tup []) 0 (ins122_S hS ha c hg) (by kernel_rfl) ⟨OW.cells rfl rfl (DWl.eq rfl (rwF_all _ _ _)), OW.cells rfl rfl (DWl.cons (DW.arr _ _ _ rfl) DWl.nil), OW.cells rfl rfl (DWl.eq rfl (chC_all _)), trivial⟩ (DWl.cons (DW.arr _ _ _ rfl) (DWl.cons (DW.same _ rfl) (DWl.cons (DW.same _ rfl) (DWl.cons (DW.clol DWl.nil (DWl.cons (DW.ref _ _ _ rfl) DWl.nil)) DWl.nil)))) (DW.tupl DWl.nil) ⟨OW.cells rfl rfl (DWl.eq rfl (rwF_all _ _ _)), OW.cells rfl rfl (DWl.cons (DW.arr _ _ _ rfl) DWl.nil), OW.cells rfl rfl (DWl.eq rfl (chC_all _)), trivial⟩ ?_) | ((with_reducible refine ECall.mark ?_); first | refine ECall.only ?_ (fun h => nomatch h) | refine ECall.only ?_ ?_) | ((with_reducible refine Drawn.mark ?_); first | refine Drawn.quiet (by kernel_rfl) ?_) | refine dcell_ok rfl ?_ | refine AppC.new ?_))
    all_goals try ((conv => whnf); with_reducible refine Round.mark ?_)
    all_goals try first | ((with_reducible show Option.isSome (slElem _ _) = true); kernel_rfl) | ((with_reducible show slElem _ _ = some _); kernel_rfl) | ((with_reducible refine enters_mark ?_); kernel_rfl) | (with_reducible assumption) | ((with_reducible show List.all _ DV.one = true); rfl) | ((with_reducible show (_ : Nat) = _); rfl) | ((with_reducible show (_ == true) = true); simpa using h) | ((with_reducible show (_ : Nat) ≤ _); exact Nat.le_of_ble_eq_true rfl) | ((with_reducible show (_ : Int) ≤ _); first | omega | decide) | ((with_reducible show (_ : Int) < _); first | omega | decide) | ((with_reducible show (_ : Nat) < _); omega) | ((with_reducible show (_ : Nat) ≤ _); omega)
    refine Round.go (fun _ => (a + 20, insF (ltK ks rows) a (a + 20) g)) ⟨c, insF_cl c hg, k, by show n - (a + 20) < k; omega, (stB_t c).symm.trans he⟩ (by show n - (a + 20) < n - a; omega) (Weak.list [] [] (by kernel_rfl) ?_ ?_)
    iterate 2 · repeat' (first | exact w20 (by omega) | exact DWl.eq rfl (chC_all _) | exact DWl.eq rfl (rwF_all _ _ _) | exact DW.same _ rfl | exact DW.ref _ _ _ rfl | exact DW.arr _ _ _ rfl | exact OW.cells rfl rfl (DWl.same rfl) | refine OW.cells rfl rfl ?_ | refine DWl.cons ?_ ?_ | exact DWl.nil | exact DW.nilArr _ rfl | exact DW.nilLst _ | refine DW.clol ?_ ?_ | refine DW.aggl ?_ | refine DW.tupl ?_ | refine DW.int ?_ | refine DW.bool ?_ | refine DW.str ?_ | refine DW.arrE rfl ?_ | ((conv => whnf); first | refine And.intro ?_ ?_ | trivial))
  · rw [stB_f c] at he
    generalize hG : stB (ltK ks rows) n (n + 1) 0 f = G at he
    have hG2 : Cl n G := by rw [← he]; exact insF_cl (Nat.le_refl _) hg
    repeat' (first | with_reducible rfl | ((conv => whnf); first | refine And.intro ?_ ?_ | (intro h; first | with_reducible exact tf_no h | with_reducible exact ft_no h | exact Bool.noConfusion h | with_reducible exact h | (exfalso; exact le_f c h) | (have ht : true = true := h; clear ht h) | skip) | ((with_reducible refine SCall.mark ?_); first | refine SCall.at [0, 1, 2] (fun _ => stO ks rows n (insF (ltK ks rows) a n g)) (fun _ => .tup []) 0 (ins122_S hS ha (Nat.le_refl _) hg) (by kernel_rfl) ⟨OW.cells rfl rfl (DWl.eq rfl (rwF_all _ _ _)), OW.cells rfl rfl (DWl.cons (DW.arr _ _ _ rfl) DWl.nil), OW.cells rfl rfl (DWl.eq rfl (chC_all _)), trivial⟩ (DWl.cons (DW.arr _ _ _ rfl) (DWl.cons (DW.same _ rfl) (DWl.cons (DW.same _ rfl) (DWl.cons (DW.clol DWl.nil (DWl.cons (DW.ref _ _ _ rfl) DWl.nil)) DWl.nil)))) (DW.tupl DWl.nil) ⟨OW.cells rfl rfl (DWl.eq rfl (rwF_all _ _ _)), OW.cells rfl rfl (DWl.cons (DW.arr _ _ _ rfl) DWl.nil), OW.cells rfl rfl (DWl.eq rfl (chC_all _)), trivial⟩ ?_) | ((with_reducible refine ECall.mark ?_); first | refine ECall.only ?_ (fun h => nomatch h) | refine ECall.only ?_ ?_) | ((with_reducible refine Drawn.mark ?_); first | refine Drawn.quiet (by kernel_rfl) ?_) | refine dcell_ok rfl ?_ | refine AppC.new ?_))
    all_goals try first | ((with_reducible show Option.isSome (slElem _ _) = true); kernel_rfl) | ((with_reducible show slElem _ _ = some _); kernel_rfl) | ((with_reducible refine enters_mark ?_); kernel_rfl) | (with_reducible assumption) | ((with_reducible show List.all _ DV.one = true); rfl) | ((with_reducible show (_ : Nat) = _); rfl) | ((with_reducible show (_ == true) = true); simpa using h) | ((with_reducible show (_ : Nat) ≤ _); exact Nat.le_of_ble_eq_true rfl) | ((with_reducible show (_ : Int) ≤ _); first | omega | decide) | ((with_reducible show (_ : Int) < _); first | omega | decide) | ((with_reducible show (_ : Nat) < _); omega) | ((with_reducible show (_ : Nat) ≤ _); omega)
    rw [he]
    conv => whnf
    refine Tri.loop (b2St ks rows n) (fun p => 20 ≤ p.1 ∧ (p.1 = 20 ∨ p.1 ≤ 2 * n) ∧ Cl n p.2 ∧ ∃ k, n - p.1 < k ∧ stL (ltK ks rows) n k p.1 p.2 = stL (ltK ks rows) n (n + 1) 20 G) (fun p => n - p.1) (20, G) (by kernel_rfl) (Go.Dl.Weak.list [] [] (by kernel_rfl) ?_ ?_) ⟨Nat.le_refl _, .inl rfl, hG2, n + 1, by show n - 20 < n + 1; omega, rfl⟩ ?_
    iterate 2 · repeat' (first | rfl | exact DWl.eq rfl (chC_all _) | exact DWl.eq rfl (rwF_all _ _ _) | exact DW.same _ rfl | exact DW.ref _ _ _ rfl | exact DW.arr _ _ _ rfl | exact OW.cells rfl rfl (DWl.same rfl) | refine OW.cells rfl rfl ?_ | refine DWl.cons ?_ ?_ | exact DWl.nil | exact DW.nilArr _ rfl | exact DW.nilLst _ | refine DW.clol ?_ ?_ | refine DW.aggl ?_ | refine DW.tupl ?_ | refine DW.int ?_ | refine DW.bool ?_ | refine DW.str ?_ | refine DW.arrE rfl ?_ | ((conv => whnf); first | refine And.intro ?_ ?_ | trivial))
    intro ⟨bs, g2⟩ ⟨hb0, hb1, hg2, hk2⟩
    have hb0 : 20 ≤ bs := hb0
    have hb1 : bs = 20 ∨ bs ≤ 2 * n := hb1
    have hg2 : Cl n g2 := hg2
    obtain ⟨k2, hk2, he2⟩ := hk2
    have hk2 : n - bs < k2 := hk2
    have he2 : stL (ltK ks rows) n k2 bs g2 = stL (ltK ks rows) n (n + 1) 20 G := he2
    obtain ⟨k2, rfl⟩ : ∃ c, k2 = c + 1 := ⟨k2 - 1, by omega⟩
    show dcode _ _ _ _ (b2St ks rows n (bs, g2)) _
    by_cases cb : bs < n
    · have hbs : bs ≤ 50000 := by omega
      rw [stL_t cb] at he2
      generalize hH : Stb.stM (ltK ks rows) n bs (n + 1) 0 g2 = H at he2
      repeat' (first | with_reducible rfl | ((conv => whnf); first | refine And.intro ?_ ?_ | (intro h; first | with_reducible exact tf_no h | with_reducible exact ft_no h | exact Bool.noConfusion h | with_reducible exact h | (exfalso; exact dn_t cb (show decide (bs < n) = false from decide_eq_false (Nat.not_lt_of_le (ge_int h)))) | (have ht : true = true := h; clear ht h) | skip) | ((with_reducible refine ECall.mark ?_); first | refine ECall.only ?_ (fun h => nomatch h) | refine ECall.only ?_ ?_) | ((with_reducible refine Drawn.mark ?_); first | refine Drawn.quiet (by kernel_rfl) ?_) | refine dcell_ok rfl ?_ | refine AppC.new ?_))
      conv => whnf
      refine Tri.loop (b3St ks rows n bs) (fun p => p.1 ≤ n ∧ Cl n p.2 ∧ ∃ k, n - p.1 < k ∧ Stb.stM (ltK ks rows) n bs k p.1 p.2 = H) (fun p => n - p.1) (0, g2) (by kernel_rfl) (Go.Dl.Weak.list [] [] (by kernel_rfl) ?_ ?_) ⟨Nat.zero_le _, hg2, n + 1, by show n - 0 < n + 1; omega, hH⟩ ?_
      iterate 2 · repeat' (first | exact w2z hbs | exact DWl.eq rfl (chC_all _) | exact DWl.eq rfl (rwF_all _ _ _) | exact DW.same _ rfl | exact DW.ref _ _ _ rfl | exact DW.arr _ _ _ rfl | exact OW.cells rfl rfl (DWl.same rfl) | refine OW.cells rfl rfl ?_ | refine DWl.cons ?_ ?_ | exact DWl.nil | exact DW.nilArr _ rfl | exact DW.nilLst _ | refine DW.clol ?_ ?_ | refine DW.aggl ?_ | refine DW.tupl ?_ | refine DW.int ?_ | refine DW.bool ?_ | refine DW.str ?_ | refine DW.arrE rfl ?_ | ((conv => whnf); first | refine And.intro ?_ ?_ | trivial))
      intro ⟨a3, g3⟩ ⟨ha3, hg3, hk3⟩
      have ha3 : a3 ≤ n := ha3
      have hg3 : Cl n g3 := hg3
      obtain ⟨k3, hk3, he3⟩ := hk3
      have hk3 : n - a3 < k3 := hk3
      have he3 : Stb.stM (ltK ks rows) n bs k3 a3 g3 = H := he3
      obtain ⟨k3, rfl⟩ : ∃ c, k3 = c + 1 := ⟨k3 - 1, by omega⟩
      have hax : a3 + bs ≤ 100000 := by omega
      show dcode _ _ _ _ (b3St ks rows n bs (a3, g3)) _
      by_cases c3 : a3 + 2 * bs ≤ n
      · repeat' (first | with_reducible rfl | ((conv => whnf); first | refine And.intro ?_ ?_ | (intro h; first | with_reducible exact tf_no h | with_reducible exact ft_no h | exact Bool.noConfusion h | with_reducible exact h | (exfalso; exact le_t c3 h) | (have ht : true = true := h; clear ht h) | skip) | ((with_reducible refine SCall.mark ?_); first | refine SCall.at [0, 1, 2] (fun _ => stO ks rows n (symF (ltK ks rows) (2 * bs) a3 (a3 + bs) (a3 + 2 * bs) g3)) (fun _ => .tup []) 0 (sym123_S hS (2 * bs) a3 (a3 + bs) (a3 + 2 * bs) g3 (by omega) (by omega) c3 hg3 (by omega)) (by kernel_rfl) ⟨OW.cells rfl rfl (DWl.eq rfl (rwF_all _ _ _)), OW.cells rfl rfl (DWl.cons (DW.arr _ _ _ rfl) DWl.nil), OW.cells rfl rfl (DWl.eq rfl (chC_all _)), trivial⟩ (DWl.cons (DW.arr _ _ _ rfl) (DWl.cons (DW.same _ rfl) (DWl.cons (DW.int (sx_w hax)) (DWl.cons (DW.same _ rfl) (DWl.cons (DW.clol DWl.nil (DWl.cons (DW.ref _ _ _ rfl) DWl.nil)) DWl.nil))))) (DW.tupl DWl.nil) ⟨OW.cells rfl rfl (DWl.eq rfl (rwF_all _ _ _)), OW.cells rfl rfl (DWl.cons (DW.arr _ _ _ rfl) DWl.nil), OW.cells rfl rfl (DWl.eq rfl (chC_all _)), trivial⟩ ?_) | ((with_reducible refine ECall.mark ?_); first | refine ECall.only ?_ (fun h => nomatch h) | refine ECall.only ?_ ?_) | ((with_reducible refine Drawn.mark ?_); first | refine Drawn.quiet (by kernel_rfl) ?_) | refine dcell_ok rfl ?_ | refine AppC.new ?_))
        all_goals try ((conv => whnf); with_reducible refine Round.mark ?_)
        all_goals try first | ((with_reducible show Option.isSome (slElem _ _) = true); kernel_rfl) | ((with_reducible show slElem _ _ = some _); kernel_rfl) | ((with_reducible refine enters_mark ?_); kernel_rfl) | (with_reducible assumption) | ((with_reducible show List.all _ DV.one = true); rfl) | ((with_reducible show (_ : Nat) = _); rfl) | ((with_reducible show (_ == true) = true); simpa using h) | ((with_reducible show (_ : Nat) ≤ _); exact Nat.le_of_ble_eq_true rfl) | ((with_reducible show (_ : Int) ≤ _); first | omega | decide) | ((with_reducible show (_ : Int) < _); first | omega | decide) | ((with_reducible show (_ : Nat) < _); omega) | ((with_reducible show (_ : Nat) ≤ _); omega)
        refine Round.go (fun _ => (a3 + 2 * bs, symF (ltK ks rows) (2 * bs) a3 (a3 + bs) (a3 + 2 * bs) g3)) ⟨c3, symF_cl (2 * bs) a3 (a3 + bs) (a3 + 2 * bs) g3 (by omega) (by omega) c3 hg3, k3, by show n - (a3 + 2 * bs) < k3; omega, (stM_t c3).symm.trans he3⟩ (by show n - (a3 + 2 * bs) < n - a3; omega) (Weak.list [] [] (by kernel_rfl) ?_ ?_)
        iterate 2 · repeat' (first | exact w2a hbs (by omega) | exact DWl.eq rfl (chC_all _) | exact DWl.eq rfl (rwF_all _ _ _) | exact DW.same _ rfl | exact DW.ref _ _ _ rfl | exact DW.arr _ _ _ rfl | exact OW.cells rfl rfl (DWl.same rfl) | refine OW.cells rfl rfl ?_ | refine DWl.cons ?_ ?_ | exact DWl.nil | exact DW.nilArr _ rfl | exact DW.nilLst _ | refine DW.clol ?_ ?_ | refine DW.aggl ?_ | refine DW.tupl ?_ | refine DW.int ?_ | refine DW.bool ?_ | refine DW.str ?_ | refine DW.arrE rfl ?_ | ((conv => whnf); first | refine And.intro ?_ ?_ | trivial))
      · by_cases d3 : a3 + bs < n
        · have e3 : symF (ltK ks rows) (n - a3) a3 (a3 + bs) n g3 = H := (stM_f c3 d3).symm.trans he3
          have hH2 : Cl n H := by rw [← e3]; exact symF_cl (n - a3) a3 (a3 + bs) n g3 (by omega) d3 (Nat.le_refl _) hg3
          repeat' (first | with_reducible rfl | ((conv => whnf); first | refine And.intro ?_ ?_ | (intro h; first | with_reducible exact tf_no h | with_reducible exact ft_no h | exact Bool.noConfusion h | with_reducible exact h | (exfalso; exact le_f c3 h) | (exfalso; exact ws_t hax d3 h) | (have ht : true = true := h; clear ht h) | skip) | ((with_reducible refine SCall.mark ?_); first | refine SCall.at [0, 1, 2] (fun _ => stO ks rows n (symF (ltK ks rows) (n - a3) a3 (a3 + bs) n g3)) (fun _ => .tup []) 0 (sym123_S hS (n - a3) a3 (a3 + bs) n g3 (by omega) d3 (Nat.le_refl _) hg3 (Nat.le_refl _)) (by kernel_rfl) ⟨OW.cells rfl rfl (DWl.eq rfl (rwF_all _ _ _)), OW.cells rfl rfl (DWl.cons (DW.arr _ _ _ rfl) DWl.nil), OW.cells rfl rfl (DWl.eq rfl (chC_all _)), trivial⟩ (DWl.cons (DW.arr _ _ _ rfl) (DWl.cons (DW.same _ rfl) (DWl.cons (DW.int (sx_w hax)) (DWl.cons (DW.same _ rfl) (DWl.cons (DW.clol DWl.nil (DWl.cons (DW.ref _ _ _ rfl) DWl.nil)) DWl.nil))))) (DW.tupl DWl.nil) ⟨OW.cells rfl rfl (DWl.eq rfl (rwF_all _ _ _)), OW.cells rfl rfl (DWl.cons (DW.arr _ _ _ rfl) DWl.nil), OW.cells rfl rfl (DWl.eq rfl (chC_all _)), trivial⟩ ?_) | ((with_reducible refine ECall.mark ?_); first | refine ECall.only ?_ (fun h => nomatch h) | refine ECall.only ?_ ?_) | ((with_reducible refine Drawn.mark ?_); first | refine Drawn.quiet (by kernel_rfl) ?_) | refine dcell_ok rfl ?_ | refine AppC.new ?_))
          all_goals try ((conv => whnf); with_reducible refine Round.mark ?_)
          all_goals try first | ((with_reducible show Option.isSome (slElem _ _) = true); kernel_rfl) | ((with_reducible show slElem _ _ = some _); kernel_rfl) | ((with_reducible refine enters_mark ?_); kernel_rfl) | (with_reducible assumption) | ((with_reducible show List.all _ DV.one = true); rfl) | ((with_reducible show (_ : Nat) = _); rfl) | ((with_reducible show (_ == true) = true); simpa using h) | ((with_reducible show (_ : Nat) ≤ _); exact Nat.le_of_ble_eq_true rfl) | ((with_reducible show (_ : Int) ≤ _); first | omega | decide) | ((with_reducible show (_ : Int) < _); first | omega | decide) | ((with_reducible show (_ : Nat) < _); omega) | ((with_reducible show (_ : Nat) ≤ _); omega)
          refine Round.go (fun _ => (2 * bs, H)) ⟨by show 20 ≤ 2 * bs; omega, .inr (by show 2 * bs ≤ 2 * n; omega), hH2, k2, by show n - 2 * bs < k2; omega, he2⟩ (by show n - 2 * bs < n - bs; omega) (Weak.list [] [] (by kernel_rfl) ?_ ?_)
          iterate 2 · repeat' (first | exact w2' hbs | exact DWl.eq rfl (chC_all _) | exact DWl.eq (congrArg (rwF rows n) e3) (rwF_all _ _ _) | exact DW.same _ rfl | exact DW.ref _ _ _ rfl | exact DW.arr _ _ _ rfl | exact OW.cells rfl rfl (DWl.same rfl) | refine OW.cells rfl rfl ?_ | refine DWl.cons ?_ ?_ | exact DWl.nil | exact DW.nilArr _ rfl | exact DW.nilLst _ | refine DW.clol ?_ ?_ | refine DW.aggl ?_ | refine DW.tupl ?_ | refine DW.int ?_ | refine DW.bool ?_ | refine DW.str ?_ | refine DW.arrE rfl ?_ | ((conv => whnf); first | refine And.intro ?_ ?_ | trivial))
        · have e3 : g3 = H := (stM_e c3 d3).symm.trans he3
          have hH2 : Cl n H := by rw [← e3]; exact hg3
          repeat' (first | with_reducible rfl | ((conv => whnf); first | refine And.intro ?_ ?_ | (intro h; first | with_reducible exact tf_no h | with_reducible exact ft_no h | exact Bool.noConfusion h | with_reducible exact h | (exfalso; exact le_f c3 h) | (exfalso; exact ws_f hax d3 h) | (have ht : true = true := h; clear ht h) | skip) | ((with_reducible refine ECall.mark ?_); first | refine ECall.only ?_ (fun h => nomatch h) | refine ECall.only ?_ ?_) | ((with_reducible refine Drawn.mark ?_); first | refine Drawn.quiet (by kernel_rfl) ?_) | refine dcell_ok rfl ?_ | refine AppC.new ?_))
          all_goals try ((conv => whnf); with_reducible refine Round.mark ?_)
          all_goals try first | ((with_reducible show Option.isSome (slElem _ _) = true); kernel_rfl) | ((with_reducible show slElem _ _ = some _); kernel_rfl) | ((with_reducible refine enters_mark ?_); kernel_rfl) | (with_reducible assumption) | ((with_reducible show List.all _ DV.one = true); rfl) | ((with_reducible show (_ : Nat) = _); rfl) | ((with_reducible show (_ == true) = true); simpa using h) | ((with_reducible show (_ : Nat) ≤ _); exact Nat.le_of_ble_eq_true rfl) | ((with_reducible show (_ : Int) ≤ _); first | omega | decide) | ((with_reducible show (_ : Int) < _); first | omega | decide) | ((with_reducible show (_ : Nat) < _); omega) | ((with_reducible show (_ : Nat) ≤ _); omega)
          refine Round.go (fun _ => (2 * bs, H)) ⟨by show 20 ≤ 2 * bs; omega, .inr (by show 2 * bs ≤ 2 * n; omega), hH2, k2, by show n - 2 * bs < k2; omega, he2⟩ (by show n - 2 * bs < n - bs; omega) (Weak.list [] [] (by kernel_rfl) ?_ ?_)
          iterate 2 · repeat' (first | exact w2' hbs | exact DWl.eq rfl (chC_all _) | exact DWl.eq (congrArg (rwF rows n) e3) (rwF_all _ _ _) | exact DW.same _ rfl | exact DW.ref _ _ _ rfl | exact DW.arr _ _ _ rfl | exact OW.cells rfl rfl (DWl.same rfl) | refine OW.cells rfl rfl ?_ | refine DWl.cons ?_ ?_ | exact DWl.nil | exact DW.nilArr _ rfl | exact DW.nilLst _ | refine DW.clol ?_ ?_ | refine DW.aggl ?_ | refine DW.tupl ?_ | refine DW.int ?_ | refine DW.bool ?_ | refine DW.str ?_ | refine DW.arrE rfl ?_ | ((conv => whnf); first | refine And.intro ?_ ?_ | trivial))
    · have e9 : rwF rows n g2 = rwF rows n (stL (ltK ks rows) n (n + 1) 20 G) := by rw [← he2, stL_f cb]
      repeat' (first | with_reducible rfl | ((conv => whnf); first | refine And.intro ?_ ?_ | (intro h; first | with_reducible exact tf_no h | with_reducible exact ft_no h | exact Bool.noConfusion h | with_reducible exact h | (exfalso; exact cb (lt_int h)) | (have ht : true = true := h; clear ht h) | skip) | ((with_reducible refine ECall.mark ?_); first | refine ECall.only ?_ (fun h => nomatch h) | refine ECall.only ?_ ?_) | ((with_reducible refine Drawn.mark ?_); first | refine Drawn.quiet (by kernel_rfl) ?_) | refine dcell_ok rfl ?_ | refine AppC.new ?_))
      all_goals try first | ((with_reducible show Option.isSome (slElem _ _) = true); kernel_rfl) | ((with_reducible show slElem _ _ = some _); kernel_rfl) | ((with_reducible refine enters_mark ?_); kernel_rfl) | (with_reducible assumption) | ((with_reducible show List.all _ DV.one = true); rfl) | ((with_reducible show (_ : Nat) = _); rfl) | ((with_reducible show (_ == true) = true); simpa using h) | ((with_reducible show (_ : Nat) ≤ _); exact Nat.le_of_ble_eq_true rfl) | ((with_reducible show (_ : Int) ≤ _); first | omega | decide) | ((with_reducible show (_ : Int) < _); first | omega | decide) | ((with_reducible show (_ : Nat) < _); omega) | ((with_reducible show (_ : Nat) ≤ _); omega)
      conv => whnf
      refine Retold.list [] [] (.tup []) (stO ks rows n (stL (ltK ks rows) n (n + 1) 20 G)) 3 (by kernel_rfl) ?_ ?_ ⟨rfl, rfl⟩
      iterate 2 · repeat' (first | exact DWl.eq rfl (chC_all _) | exact DWl.eq e9 (rwF_all _ _ _) | exact DW.same _ rfl | exact DW.ref _ _ _ rfl | exact DW.arr _ _ _ rfl | exact OW.cells rfl rfl (DWl.same rfl) | refine OW.cells rfl rfl ?_ | refine DWl.cons ?_ ?_ | exact DWl.nil | exact DW.nilArr _ rfl | exact DW.nilLst _ | refine DW.clol ?_ ?_ | refine DW.aggl ?_ | refine DW.tupl ?_ | refine DW.int ?_ | refine DW.bool ?_ | refine DW.str ?_ | refine DW.arrE rfl ?_ | ((conv => whnf); first | refine And.intro ?_ ?_ | trivial))
end Go.Proofs.YtlchjjchgebfiaaGreatDoor

namespace Go.Proofs.YtlchjjchgebfiaaGreatDoor
open Go.RowKit Go.Dl Go.Dl.Stb
attribute [local irreducible] Tri SCall TSem ECall Drawn DFun QSem PSem PCall GCall MCall Round Go.Dl.Weak dloadE OW DWl Tells IntKind.wrap Retold ESem
attribute [local irreducible] rwF chC stB stL stab
theorem stab_is (lt : Nat → Nat → Bool) (n : Nat) : stL lt n (n + 1) 20 (stB lt n (n + 1) 0 fun i => i) = stab lt n := by with_unfolding_all rfl
set_option maxRecDepth 20000 in
set_option maxHeartbeats 4000000 in
theorem sort62_G {ks : List Int} {rows : List (List ByteArray)} {n : Nat} (hS : SrtOk ks rows n) :
    SCall Tryz.prog 62 [.arr 0 n, .clo (.func 63) [] [.ref 1 0]] (.of (stO ks rows n fun i => i) 3) fun r' s' => r' = .tup [] ∧ s' = .of (stO ks rows n (stab (ltK ks rows) n)) 3 := by
  have hn := hS.n
  have hc := stab94_S hS (f := fun i => i) (fun i hi => hi)
  rw [stab_is] at hc
  refine SCall.retell (SCall.run Tryz.func62 rfl (Nat.le_of_ble_eq_true rfl) (by kernel_rfl) ?_)
  repeat' (first | with_reducible rfl | ((conv => whnf); first | refine And.intro ?_ ?_ | (intro h; first | with_reducible exact tf_no h | with_reducible exact ft_no h | exact Bool.noConfusion h | with_reducible exact h | (have ht : true = true := h; clear ht h) | skip) | ((with_reducible refine SCall.mark ?_); first | refine SCall.at [0, 1, 2] (fun _ => stO ks rows n (stab (ltK ks rows) n)) (fun _ => .tup []) 0 hc (by kernel_rfl) ⟨OW.cells rfl rfl (DWl.eq rfl (rwF_all _ _ _)), OW.cells rfl rfl (DWl.cons (DW.arr _ _ _ rfl) DWl.nil), OW.cells rfl rfl (DWl.eq rfl (chC_all _)), trivial⟩ (DWl.cons (DW.arr _ _ _ rfl) (DWl.cons (DW.same _ rfl) (DWl.cons (DW.clol DWl.nil (DWl.cons (DW.ref _ _ _ rfl) DWl.nil)) DWl.nil))) (DW.tupl DWl.nil) ⟨OW.cells rfl rfl (DWl.eq rfl (rwF_all _ _ _)), OW.cells rfl rfl (DWl.cons (DW.arr _ _ _ rfl) DWl.nil), OW.cells rfl rfl (DWl.eq rfl (chC_all _)), trivial⟩ ?_) | ((with_reducible refine ECall.mark ?_); first | refine ECall.only ?_ (fun h => nomatch h) | refine ECall.only ?_ ?_) | ((with_reducible refine Drawn.mark ?_); first | refine Drawn.quiet (by kernel_rfl) ?_) | refine dcell_ok rfl ?_ | refine AppC.new ?_))
  all_goals first | (with_reducible refine enters_mark ?_; kernel_rfl) | (with_reducible refine boolT_mark ?_; kernel_rfl) | rfl | trivial | assumption | exact Nat.le_of_ble_eq_true rfl | (show entersB _ _ = true; kernel_rfl) | exact DW.same _ rfl | exact DW.ref _ _ _ rfl | exact DW.arr _ _ _ rfl | refine DW.int ?_ | refine dvb ?_ | refine dvi ?_ | exact OW.cells rfl rfl (DWl.same rfl) | exact Nat.zero_le _ | omega | skip
  all_goals repeat' (first | refine OW.cells rfl rfl ?_ | exact DW.nilArr _ rfl | refine DWl.cons ?_ ?_ | exact DWl.nil | exact DW.same _ rfl | exact DW.ref _ _ _ rfl | exact DW.arr _ _ _ rfl | exact DW.sub _ _ _ _ rfl | exact DW.mo _ _ rfl | exact DW.nilLst _ | refine DW.aggl ?_ | refine DW.tupl ?_ | refine DW.clol ?_ ?_)
  all_goals try ((conv => whnf); with_reducible first | refine Round.mark ?_ | refine Tells.mark ?_ | refine Retold.mark ?_)
  all_goals try first | (show (_ : Bool) = _; simp_all; done) | (show (_ : Int) < _; simp at *; omega) | (show (_ : Int) ≤ _; simp at *; omega) | (show (_ : Nat) < _; simp at *; omega) | (show (_ : Nat) ≤ _; simp at *; omega)
  all_goals try first | ((with_reducible show Option.isSome (slElem _ _) = true); kernel_rfl) | ((with_reducible show slElem _ _ = some _); kernel_rfl) | ((with_reducible refine enters_mark ?_); kernel_rfl) | (with_reducible assumption) | ((with_reducible show List.all _ DV.one = true); rfl) | ((with_reducible show (_ : Nat) = _); rfl) | ((with_reducible show (_ == true) = true); simpa using h) | ((with_reducible show (_ : Nat) ≤ _); exact Nat.le_of_ble_eq_true rfl) | ((with_reducible show (_ : Int) ≤ _); first | omega | decide) | ((with_reducible show (_ : Int) < _); first | omega | decide) | ((with_reducible show (_ : Nat) < _); omega) | ((with_reducible show (_ : Nat) ≤ _); omega)
  conv => whnf
  refine Retold.list [] [] (.tup []) (stO ks rows n (stab (ltK ks rows) n)) 3 (by kernel_rfl) ?_ ?_ ⟨rfl, rfl⟩
  iterate 2 · repeat' (first | exact DWl.eq rfl (chC_all _) | exact DWl.eq rfl (rwF_all _ _ _) | exact DW.same _ rfl | exact DW.ref _ _ _ rfl | exact DW.arr _ _ _ rfl | exact OW.cells rfl rfl (DWl.same rfl) | refine OW.cells rfl rfl ?_ | refine DWl.cons ?_ ?_ | exact DWl.nil | exact DW.nilArr _ rfl | exact DW.nilLst _ | refine DW.clol ?_ ?_ | refine DW.aggl ?_ | refine DW.tupl ?_ | refine DW.int ?_ | refine DW.bool ?_ | refine DW.str ?_ | refine DW.arrE rfl ?_ | ((conv => whnf); first | refine And.intro ?_ ?_ | trivial))
end Go.Proofs.YtlchjjchgebfiaaGreatDoor
namespace Go.Proofs.YtlchjjchgebfiaaGreatDoor
open Go.RowKit Go.Dl Go.Dl.Stb
attribute [local irreducible] Tri SCall TSem ECall Drawn DFun QSem PSem PCall GCall MCall Round Go.Dl.Weak dloadE OW DWl Tells IntKind.wrap Retold ESem
theorem chC_z (ks : List Int) : chC (ks.take 0) = [] := rfl
theorem ints_len (ks : List Int) : (((ks.map intD).length : Nat) : Int) = ((ks.length : Nat) : Int) := by rw [List.length_map]
theorem ints_lt {ks : List Int} {i : Nat} (h : i < ks.length) : (i : Int) < (((ks.map intD).length : Nat) : Int) := by rw [List.length_map]; omega
theorem ints_n {ks : List Int} {i : Nat} (h : i < ks.length) : ((i : Nat) : Int).toNat < ks.length := by rw [Int.toNat_natCast]; exact h
def KIn (k : Int) : Prop := -9223372036854775808 ≤ k ∧ k ≤ 9223372036854775807
theorem tn_is {k : Int} (hr : KIn k) (hneg : k < 0) : IntKind.i64.wrap (0 - IntKind.i64.wrap (k + 1)) = atK k := by
  have h1 := hr.1
  unfold atK
  rw [if_pos hneg, IntKind.wrap_i64, IntKind.wrap_i64]; omega
theorem tp_is {k : Int} (hr : KIn k) (hneg : ¬ k < 0) : IntKind.i64.wrap (k - 1) = atK k := by
  have h1 := hr.2
  unfold atK
  rw [if_neg hneg, IntKind.wrap_i64]; omega
theorem ko_is {m : Nat} {k : Int} : KeyOk m k ↔ k ≠ 0 ∧ ¬ (m : Int) ≤ atK k := by
  unfold KeyOk atK; split <;> omega
theorem bf_t {p q : Bool} (h : (bif p then true else q) = true) : p = true ∨ q = true := by cases p; exact .inr h; exact .inl rfl
theorem bf_f {p q : Bool} (h : (bif p then true else q) = false) : p = false ∧ q = false := by cases p with
  | true => cases h
  | false => exact ⟨rfl, h⟩
theorem tt_t {m : Nat} {k x : Int} (e : x = atK k) (hok : KeyOk m k) (h : (bif k == 0 then true else decide ((m : Int) ≤ x)) = true) : False := by
  have h2 := ko_is.1 hok
  subst e
  rcases bf_t h with h | h
  · exact h2.1 (eq_of_beq h)
  · exact h2.2 (of_decide_eq_true h)
theorem tt_f {m : Nat} {k x : Int} (e : x = atK k) (hok : ¬ KeyOk m k) (h : (bif k == 0 then true else decide ((m : Int) ≤ x)) = false) : False := by
  subst e
  obtain ⟨h1, h2⟩ := bf_f h
  exact hok (ko_is.2 ⟨(by intro e; subst e; cases h1), of_decide_eq_false h2⟩)
theorem kr_at {ks : List Int} {i : Nat} (hr : ∀ k ∈ ks, KIn k) (h : i < ks.length) : KIn (ks.getD ((i : Nat) : Int).toNat 0) := by
  rw [Int.toNat_natCast, List.getD_eq_getElem?_getD, List.getElem?_eq_getElem h]; exact hr _ (List.getElem_mem h)
theorem tnb {b : Bool} (h : (true && !b) = true) : (b == false) = true := by cases b; rfl; cases h
theorem nb_s (k : Int) : k < 0 → sgnK k = -1 := fun h => by unfold sgnK; rw [if_pos h]
theorem nb_p (k : Int) : ¬ k < 0 → sgnK k = 1 := fun h => by unfold sgnK; rw [if_neg h]
theorem ch_push {ks : List Int} {i : Nat} (h : i < ks.length) : (chC (ks.take i)).take (i * 1) ++ [oneD (ks.getD ((i : Nat) : Int).toNat 0)] = chC (ks.take (i + 1)) := by
  rw [Int.toNat_natCast, Nat.mul_one]
  unfold chC
  rw [List.take_of_length_le (by rw [List.length_map, List.length_take]; omega), List.take_succ_eq_append_getElem h, List.map_append, List.getD_eq_getElem?_getD, List.getElem?_eq_getElem h]; rfl
theorem ch_all (ks : List Int) (i : Nat) : ((chC ks).take i).all noId1 = true := by
  rw [List.all_eq_true]
  exact fun x hx => List.all_eq_true.1 (chC_all ks) x (List.mem_of_mem_take hx)
theorem ch_len {ks : List Int} {i : Nat} (h : i < ks.length) : i * 1 ≤ (chC (ks.take i)).length := by
  rw [chC_len, List.length_take]; omega
def sortL (t : Tb) (ks : List Int) : Tb := ⟨t.head, (List.range t.rows.length).map fun j => t.rows.getD (stab (ltK ks t.rows) t.rows.length j) []⟩
def sortV (t : Tb) (ks : List Int) : DV := .tup [tab (sortL t ks), int1 0]
theorem so_len (i : Nat) (h : (i + 1) * 1 ≤ 140737488355328) : i + 1 ≤ maxLen := by
  have : (140737488355328 : Nat) ≤ maxLen := by decide
  omega
theorem so_bad {ks : List Int} {m i : Nat} (h : i < ks.length) (hb : ¬ KeyOk m (ks.getD ((i : Nat) : Int).toNat 0)) : ¬ ∀ k ∈ ks, KeyOk m k := fun hall => by
  rw [Int.toNat_natCast, List.getD_eq_getElem?_getD, List.getElem?_eq_getElem h] at hb
  exact hb (hall _ (List.getElem_mem h))
theorem so_next {ks : List Int} {m i : Nat} (h : i < ks.length) (hk : KeyOk m (ks.getD ((i : Nat) : Int).toNat 0)) (hp : ∀ k ∈ ks.take i, KeyOk m k) : ∀ k ∈ ks.take (i + 1), KeyOk m k := fun k hm => by
  rw [Int.toNat_natCast, List.getD_eq_getElem?_getD, List.getElem?_eq_getElem h] at hk
  rw [List.take_succ_eq_append_getElem h, List.mem_append, List.mem_singleton] at hm
  rcases hm with hm | rfl
  · exact hp k hm
  · exact hk
theorem rowsC_map : ∀ l : List (List ByteArray), rowsC l = l.map strs
  | [] => rfl
  | a :: l => by
    show strs a :: rowsC l = _
    rw [rowsC_map l]; rfl
theorem rwF_is (rows : List (List ByteArray)) (n : Nat) (f : Nat → Nat) : rwF rows n f = rowsC ((List.range n).map fun j => rows.getD (f j) []) := by
  rw [rowsC_map, List.map_map]; rfl
theorem rwF_id (rows : List (List ByteArray)) : rowsC rows = rwF rows rows.length fun i => i := by
  rw [rowsC_map]
  refine List.ext_getElem? fun k => ?_
  rcases Nat.lt_or_ge k rows.length with h | h
  · rw [rwF_at h, List.getD_eq_getElem?_getD, List.getElem?_map, List.getElem?_eq_getElem h]; rfl
  · rw [List.getElem?_eq_none (by rw [List.length_map]; exact h), List.getElem?_eq_none (by rw [rwF_len]; exact h)]
theorem so_rl (t : Tb) (ks : List Int) : (sortL t ks).rows.length = t.rows.length := by
  show ((List.range _).map _).length = _
  rw [List.length_map, List.length_range]
def soSt (t : Tb) (ks : List Int) (i : Nat) : St := ⟨0, tmOf [(2, .ref 0 0), (4, .ref 1 0), (6, .ref 2 0), (12, ints ks), (13, int1 ks.length), (14, int1 i)], .of [(0, ⟨25, 2, tbD t⟩), (1, ⟨25, 2, [.v (.slice none 0 0), .v (.slice none 0 0)]⟩), (2, ⟨104, 1, [.arr 3 i]⟩), (3, ⟨105, 1, chC (ks.take i)⟩)] 4⟩
attribute [local irreducible] rwF chC stab
set_option maxRecDepth 20000 in
set_option maxHeartbeats 4000000 in
theorem sort26_D (t : Tb) (ks : List Int) (hk : ks.length ≤ 17592186044416) (hr : ∀ k ∈ ks, KIn k) (hS : (∀ k ∈ ks, KeyOk (t.head.map strD).length k) → SrtOk ks t.rows t.rows.length) (hh1 : 1 ≤ t.head.length) (hh2 : t.head.length ≤ 4096) (hrw : t.rows.length ≤ 4096 ∧ ∀ r ∈ t.rows, 1 ≤ r.length ∧ r.length ≤ 4096) (R : DV) (h1 : (∀ k ∈ ks, KeyOk (t.head.map strD).length k) → R = sortV t ks) (h2 : ¬ (∀ k ∈ ks, KeyOk (t.head.map strD).length k) → R = .tup [tab ⟨[], []⟩, int1 31]) : DPure Tryz.prog 26 [tab t, ints ks] R := by
  refine DFun.data (DFun.body Tryz.func26 rfl (by kernel_rfl) ?_)
  repeat' (first | with_reducible rfl | ((conv => whnf); first | refine And.intro ?_ ?_ | (intro h; first | with_reducible exact tf_no h | with_reducible exact ft_no h | exact Bool.noConfusion h | with_reducible exact h | (have ht : true = true := h; clear ht h) | skip) | ((with_reducible refine ECall.mark ?_); first | refine ECall.only ?_ (fun h => nomatch h) | refine ECall.only ?_ ?_) | ((with_reducible refine Drawn.mark ?_); first | refine Drawn.quiet (by kernel_rfl) ?_) | refine dcell_ok rfl ?_ | refine AppC.new ?_))
  all_goals first | (with_reducible refine enters_mark ?_; kernel_rfl) | (with_reducible refine boolT_mark ?_; kernel_rfl) | rfl | trivial | assumption | exact Nat.le_of_ble_eq_true rfl | (show entersB _ _ = true; kernel_rfl) | exact DW.same _ rfl | exact DW.ref _ _ _ rfl | exact DW.arr _ _ _ rfl | refine DW.int ?_ | refine dvb ?_ | refine dvi ?_ | exact OW.cells rfl rfl (DWl.same rfl) | exact Nat.zero_le _ | omega | skip
  all_goals repeat' (first | refine OW.cells rfl rfl ?_ | exact DW.nilArr _ rfl | refine DWl.cons ?_ ?_ | exact DWl.nil | exact DW.same _ rfl | exact DW.ref _ _ _ rfl | exact DW.arr _ _ _ rfl | exact DW.sub _ _ _ _ rfl | exact DW.mo _ _ rfl | exact DW.nilLst _ | refine DW.aggl ?_ | refine DW.tupl ?_ | refine DW.clol ?_ ?_)
  all_goals try ((conv => whnf); with_reducible first | refine Round.mark ?_ | refine Tells.mark ?_ | refine Retold.mark ?_)
  all_goals try first | (show (_ : Bool) = _; simp_all; done) | (show (_ : Int) < _; simp at *; omega) | (show (_ : Int) ≤ _; simp at *; omega) | (show (_ : Nat) < _; simp at *; omega) | (show (_ : Nat) ≤ _; simp at *; omega)
  conv => whnf
  refine Tri.loop (soSt t ks) (fun i => i ≤ ks.length ∧ ∀ k ∈ ks.take i, KeyOk (t.head.map strD).length k) (fun i => ks.length - i) 0 (by kernel_rfl) (Go.Dl.Weak.list [(0, some 0), (1, some 1), (2, some 2), (3, none)] [] (by kernel_rfl) ?_ ?_) ⟨Nat.zero_le _, fun k hm => by cases hm⟩ ?_
  iterate 2 · repeat' (first | exact DW.nilArr _ rfl | exact ints_len ks | exact chC_z ks | exact DWl.eq rfl (chC_all _) | exact DW.same _ rfl | exact DW.ref _ _ _ rfl | exact DW.arr _ _ _ rfl | exact OW.cells rfl rfl (DWl.same rfl) | refine OW.cells rfl rfl ?_ | refine DWl.cons ?_ ?_ | exact DWl.nil | exact DW.nilArr _ rfl | exact DW.nilLst _ | refine DW.clol ?_ ?_ | refine DW.aggl ?_ | refine DW.tupl ?_ | refine DW.int ?_ | refine DW.bool ?_ | refine DW.str ?_ | refine DW.arrE rfl ?_ | ((conv => whnf); first | refine And.intro ?_ ?_ | trivial))
  intro i ⟨hi, hpre⟩
  have hi : i ≤ ks.length := hi
  have hpre : ∀ k ∈ ks.take i, KeyOk (t.head.map strD).length k := hpre
  show dcode _ _ _ _ (soSt t ks i) _
  by_cases hil : i < ks.length
  · have hlt := ints_lt hil
    have hin := ints_n hil
    have hkr := kr_at hr hil
    by_cases hs : ks.getD ((i : Nat) : Int).toNat 0 < 0
    · by_cases hok : KeyOk (t.head.map strD).length (ks.getD ((i : Nat) : Int).toNat 0)
      · repeat' (first | with_reducible rfl | ((conv => whnf); first | refine And.intro ?_ ?_ | (intro h; first | with_reducible exact tf_no h | with_reducible exact ft_no h | exact Bool.noConfusion h | with_reducible exact h | (exfalso; exact absurd (ge_int h) (Nat.not_le_of_lt hil)) | (exfalso; exact dn_t hs h) | (exfalso; exact tt_t (tn_is hkr hs) (m := (t.head.map strD).length) hok h) | (have ht : true = true := h; clear ht h) | skip) | ((with_reducible refine ECall.mark ?_); first | refine ECall.only ?_ (fun h => nomatch h) | refine ECall.only ?_ ?_) | ((with_reducible refine Drawn.mark ?_); first | refine Drawn.quiet (by kernel_rfl) ?_) | refine dloadE_map ((0 : Int)) ?_ ?_ | exact hlt | exact hin | refine dcell_ok rfl ?_ | refine AppC.new ?_))
        all_goals try ((conv => whnf); with_reducible refine Round.mark ?_)
        all_goals try (first | (with_reducible exact tnb h) | exact ch_len hil | (show (i + 1) * 8 ≤ 140737488355328; omega) | (show i + 1 ≤ maxLen; exact so_len i (by omega)))
        all_goals try first | ((with_reducible show Option.isSome (slElem _ _) = true); kernel_rfl) | ((with_reducible show slElem _ _ = some _); kernel_rfl) | ((with_reducible refine enters_mark ?_); kernel_rfl) | (with_reducible assumption) | ((with_reducible show List.all _ DV.one = true); rfl) | ((with_reducible show (_ : Nat) = _); rfl) | ((with_reducible show (_ == true) = true); simpa using h) | ((with_reducible show (_ : Nat) ≤ _); exact Nat.le_of_ble_eq_true rfl) | ((with_reducible show (_ : Int) ≤ _); first | omega | decide) | ((with_reducible show (_ : Int) < _); first | omega | decide) | ((with_reducible show (_ : Nat) < _); omega) | ((with_reducible show (_ : Nat) ≤ _); omega)
        refine Round.go (fun _ => i + 1) ⟨hil, so_next hil hok hpre⟩ (by show ks.length - (i + 1) < ks.length - i; omega) (Weak.list [(0, some 0), (1, some 1), (2, some 2), (3, some 7)] [4, 5] (by kernel_rfl) ?_ ⟨OW.cells rfl rfl (DWl.same rfl), OW.cells rfl rfl (DWl.same rfl), OW.cells rfl rfl (DWl.cons (DW.arr _ _ _ rfl) DWl.nil), OW.cells rfl rfl (DWl.snocE (ch_push hil) (ch_all _ _) (DW.clol DWl.nil (DWl.cons (DW.pubR (cs := [int1 (sgnK (ks.getD ((i : Nat) : Int).toNat 0))]) rfl (List.Mem.tail _ (List.Mem.head _)) (congrArg (fun x => [int1 x]) (nb_s _ hs).symm) rfl rfl rfl rfl) (DWl.cons (DW.pubR (cs := [int1 (atK (ks.getD ((i : Nat) : Int).toNat 0))]) rfl (List.Mem.head _) (congrArg (fun x => [int1 x]) (tn_is hkr hs)) rfl rfl rfl rfl) DWl.nil)))), trivial⟩)
        · repeat' (first | exact wsucc hil (by omega) | exact DW.same _ rfl | exact DW.ref _ _ _ rfl | exact DW.arr _ _ _ rfl | refine DW.int ?_ | ((conv => whnf); first | refine And.intro ?_ ?_ | trivial))
      · repeat' (first | with_reducible rfl | ((conv => whnf); first | refine And.intro ?_ ?_ | (intro h; first | with_reducible exact tf_no h | with_reducible exact ft_no h | exact Bool.noConfusion h | with_reducible exact h | (exfalso; exact absurd (ge_int h) (Nat.not_le_of_lt hil)) | (exfalso; exact dn_t hs h) | (exfalso; exact tt_f (tn_is hkr hs) (m := (t.head.map strD).length) hok h) | (have ht : true = true := h; clear ht h) | skip) | ((with_reducible refine ECall.mark ?_); first | refine ECall.only ?_ (fun h => nomatch h) | refine ECall.only ?_ ?_) | ((with_reducible refine Drawn.mark ?_); first | refine Drawn.quiet (by kernel_rfl) ?_) | refine dloadE_map ((0 : Int)) ?_ ?_ | exact hlt | exact hin | refine dcell_ok rfl ?_ | refine AppC.new ?_))
        all_goals try ((conv => whnf); with_reducible refine Round.mark ?_)
        all_goals try (first | (with_reducible exact tnb h) | exact ch_len hil | (show (i + 1) * 8 ≤ 140737488355328; omega) | (show i + 1 ≤ maxLen; exact so_len i (by omega)))
        all_goals try first | ((with_reducible show Option.isSome (slElem _ _) = true); kernel_rfl) | ((with_reducible show slElem _ _ = some _); kernel_rfl) | ((with_reducible refine enters_mark ?_); kernel_rfl) | (with_reducible assumption) | ((with_reducible show List.all _ DV.one = true); rfl) | ((with_reducible show (_ : Nat) = _); rfl) | ((with_reducible show (_ == true) = true); simpa using h) | ((with_reducible show (_ : Nat) ≤ _); exact Nat.le_of_ble_eq_true rfl) | ((with_reducible show (_ : Int) ≤ _); first | omega | decide) | ((with_reducible show (_ : Int) < _); first | omega | decide) | ((with_reducible show (_ : Nat) < _); omega) | ((with_reducible show (_ : Nat) ≤ _); omega)
        conv => whnf
        exact Tells.of (h2 (so_bad hil hok)) (Tells.mk (DW.tupl (DWl.cons (DW.aggl (DWl.cons (DW.nilLst _) (DWl.cons (DW.nilLst _) DWl.nil))) (DWl.cons (DW.same _ rfl) DWl.nil))))
    · by_cases hok : KeyOk (t.head.map strD).length (ks.getD ((i : Nat) : Int).toNat 0)
      · repeat' (first | with_reducible rfl | ((conv => whnf); first | refine And.intro ?_ ?_ | (intro h; first | with_reducible exact tf_no h | with_reducible exact ft_no h | exact Bool.noConfusion h | with_reducible exact h | (exfalso; exact absurd (ge_int h) (Nat.not_le_of_lt hil)) | (exfalso; exact dn_f hs h) | (exfalso; exact tt_t (tp_is hkr hs) (m := (t.head.map strD).length) hok h) | (have ht : true = true := h; clear ht h) | skip) | ((with_reducible refine ECall.mark ?_); first | refine ECall.only ?_ (fun h => nomatch h) | refine ECall.only ?_ ?_) | ((with_reducible refine Drawn.mark ?_); first | refine Drawn.quiet (by kernel_rfl) ?_) | refine dloadE_map ((0 : Int)) ?_ ?_ | exact hlt | exact hin | refine dcell_ok rfl ?_ | refine AppC.new ?_))
        all_goals try ((conv => whnf); with_reducible refine Round.mark ?_)
        all_goals try (first | (with_reducible exact tnb h) | exact ch_len hil | (show (i + 1) * 8 ≤ 140737488355328; omega) | (show i + 1 ≤ maxLen; exact so_len i (by omega)))
        all_goals try first | ((with_reducible show Option.isSome (slElem _ _) = true); kernel_rfl) | ((with_reducible show slElem _ _ = some _); kernel_rfl) | ((with_reducible refine enters_mark ?_); kernel_rfl) | (with_reducible assumption) | ((with_reducible show List.all _ DV.one = true); rfl) | ((with_reducible show (_ : Nat) = _); rfl) | ((with_reducible show (_ == true) = true); simpa using h) | ((with_reducible show (_ : Nat) ≤ _); exact Nat.le_of_ble_eq_true rfl) | ((with_reducible show (_ : Int) ≤ _); first | omega | decide) | ((with_reducible show (_ : Int) < _); first | omega | decide) | ((with_reducible show (_ : Nat) < _); omega) | ((with_reducible show (_ : Nat) ≤ _); omega)
        refine Round.go (fun _ => i + 1) ⟨hil, so_next hil hok hpre⟩ (by show ks.length - (i + 1) < ks.length - i; omega) (Weak.list [(0, some 0), (1, some 1), (2, some 2), (3, some 7)] [4, 5] (by kernel_rfl) ?_ ⟨OW.cells rfl rfl (DWl.same rfl), OW.cells rfl rfl (DWl.same rfl), OW.cells rfl rfl (DWl.cons (DW.arr _ _ _ rfl) DWl.nil), OW.cells rfl rfl (DWl.snocE (ch_push hil) (ch_all _ _) (DW.clol DWl.nil (DWl.cons (DW.pubR (cs := [int1 (sgnK (ks.getD ((i : Nat) : Int).toNat 0))]) rfl (List.Mem.tail _ (List.Mem.head _)) (congrArg (fun x => [int1 x]) (nb_p _ hs).symm) rfl rfl rfl rfl) (DWl.cons (DW.pubR (cs := [int1 (atK (ks.getD ((i : Nat) : Int).toNat 0))]) rfl (List.Mem.head _) (congrArg (fun x => [int1 x]) (tp_is hkr hs)) rfl rfl rfl rfl) DWl.nil)))), trivial⟩)
        · repeat' (first | exact wsucc hil (by omega) | exact DW.same _ rfl | exact DW.ref _ _ _ rfl | exact DW.arr _ _ _ rfl | refine DW.int ?_ | ((conv => whnf); first | refine And.intro ?_ ?_ | trivial))
      · repeat' (first | with_reducible rfl | ((conv => whnf); first | refine And.intro ?_ ?_ | (intro h; first | with_reducible exact tf_no h | with_reducible exact ft_no h | exact Bool.noConfusion h | with_reducible exact h | (exfalso; exact absurd (ge_int h) (Nat.not_le_of_lt hil)) | (exfalso; exact dn_f hs h) | (exfalso; exact tt_f (tp_is hkr hs) (m := (t.head.map strD).length) hok h) | (have ht : true = true := h; clear ht h) | skip) | ((with_reducible refine ECall.mark ?_); first | refine ECall.only ?_ (fun h => nomatch h) | refine ECall.only ?_ ?_) | ((with_reducible refine Drawn.mark ?_); first | refine Drawn.quiet (by kernel_rfl) ?_) | refine dloadE_map ((0 : Int)) ?_ ?_ | exact hlt | exact hin | refine dcell_ok rfl ?_ | refine AppC.new ?_))
        all_goals try ((conv => whnf); with_reducible refine Round.mark ?_)
        all_goals try (first | (with_reducible exact tnb h) | exact ch_len hil | (show (i + 1) * 8 ≤ 140737488355328; omega) | (show i + 1 ≤ maxLen; exact so_len i (by omega)))
        all_goals try first | ((with_reducible show Option.isSome (slElem _ _) = true); kernel_rfl) | ((with_reducible show slElem _ _ = some _); kernel_rfl) | ((with_reducible refine enters_mark ?_); kernel_rfl) | (with_reducible assumption) | ((with_reducible show List.all _ DV.one = true); rfl) | ((with_reducible show (_ : Nat) = _); rfl) | ((with_reducible show (_ == true) = true); simpa using h) | ((with_reducible show (_ : Nat) ≤ _); exact Nat.le_of_ble_eq_true rfl) | ((with_reducible show (_ : Int) ≤ _); first | omega | decide) | ((with_reducible show (_ : Int) < _); first | omega | decide) | ((with_reducible show (_ : Nat) < _); omega) | ((with_reducible show (_ : Nat) ≤ _); omega)
        conv => whnf
        exact Tells.of (h2 (so_bad hil hok)) (Tells.mk (DW.tupl (DWl.cons (DW.aggl (DWl.cons (DW.nilLst _) (DWl.cons (DW.nilLst _) DWl.nil))) (DWl.cons (DW.same _ rfl) DWl.nil))))
  · have hil2 : i = ks.length := by omega
    subst hil2
    rw [List.take_length] at hpre
    have hSr := hS hpre
    have hc := clone56_D t.head hh1 hh2
    have hw := rows57_S t.rows hrw.1 hrw.2
    have hch : chC (ks.take ks.length) = chC ks := by rw [List.take_length]
    unfold soSt
    rw [hch]
    repeat' (first | with_reducible rfl | ((conv => whnf); first | refine And.intro ?_ ?_ | (intro h; first | with_reducible exact tf_no h | with_reducible exact ft_no h | exact Bool.noConfusion h | with_reducible exact h | (exfalso; exact hil (lt_int h)) | (have ht : true = true := h; clear ht h) | skip) | ((with_reducible refine SCall.mark ?_); first | refine SCall.data (hc) rfl rfl ?_ | refine SCall.scal (hc) rfl rfl ?_ | refine SCall.at [] (fun m => [(m, ⟨22, 1, rowsC t.rows⟩)]) (fun m => .arr m t.rows.length) 1 hw (by kernel_rfl) trivial (DWl.cons (DW.same _ rfl) DWl.nil) (DW.arr _ _ _ rfl) ⟨OW.cells rfl rfl (DWl.eq rfl (rowsC_all _)), trivial⟩ ?_ | refine SCall.at [4, 2, 3] (fun _ => [(4, ⟨22, 1, rwF t.rows t.rows.length (stab (ltK ks t.rows) t.rows.length)⟩), (2, ⟨104, 1, [.arr 3 ks.length]⟩), (3, ⟨105, 1, chC ks⟩)]) (fun _ => .tup []) 0 (sort62_G hSr) (by kernel_rfl) ⟨OW.cells rfl rfl (DWl.eq (rwF_id _) (rwF_all _ _ _)), OW.cells rfl rfl (DWl.cons (DW.arr _ _ _ rfl) DWl.nil), OW.cells rfl rfl (DWl.eq rfl (chC_all _)), trivial⟩ (DWl.cons (DW.arr _ _ _ rfl) (DWl.cons (DW.clol DWl.nil (DWl.cons (DW.ref _ _ _ rfl) DWl.nil)) DWl.nil)) (DW.tupl DWl.nil) ⟨OW.cells rfl rfl (DWl.eq rfl (rwF_all _ _ _)), OW.cells rfl rfl (DWl.cons (DW.arr _ _ _ rfl) DWl.nil), OW.cells rfl rfl (DWl.eq rfl (chC_all _)), trivial⟩ ?_ | refine SCall.at [5, 2, 3] (fun _ => [(5, ⟨22, 1, rwF t.rows t.rows.length (stab (ltK ks t.rows) t.rows.length)⟩), (2, ⟨104, 1, [.arr 3 ks.length]⟩), (3, ⟨105, 1, chC ks⟩)]) (fun _ => .tup []) 0 (sort62_G hSr) (by kernel_rfl) ⟨OW.cells rfl rfl (DWl.eq (rwF_id _) (rwF_all _ _ _)), OW.cells rfl rfl (DWl.cons (DW.arr _ _ _ rfl) DWl.nil), OW.cells rfl rfl (DWl.eq rfl (chC_all _)), trivial⟩ (DWl.cons (DW.arr _ _ _ rfl) (DWl.cons (DW.clol DWl.nil (DWl.cons (DW.ref _ _ _ rfl) DWl.nil)) DWl.nil)) (DW.tupl DWl.nil) ⟨OW.cells rfl rfl (DWl.eq rfl (rwF_all _ _ _)), OW.cells rfl rfl (DWl.cons (DW.arr _ _ _ rfl) DWl.nil), OW.cells rfl rfl (DWl.eq rfl (chC_all _)), trivial⟩ ?_) | ((with_reducible refine PCall.mark ?_); first | refine PCall.mk (hc) rfl rfl ?_) | ((with_reducible refine GCall.mark ?_); first | refine GCall.data (fun _ => hc) rfl rfl ?_ | refine GCall.scal (fun _ => hc) rfl rfl ?_) | ((with_reducible refine MCall.mark ?_); first | refine MCall.data (fun _ => hc) rfl rfl ?_ | refine MCall.plain (PCall.mk (hc) rfl rfl ?_)) | ((with_reducible refine Tri.mark ?_); first | (refine Tri.treeX [4, 5] (MX.mv 0 0 (MX.mv 0 1 (MX.mv 0 3 (MX.mv 0 4 (MX.two 2 2 (MX.two 2 5 (MX.two 1 6 (MX.mv 1 7 (MX.mv 1 8 MX.done)) 1 7 (MX.mv 1 6 (MX.mv 1 8 MX.done))) 1 7 (MX.mv 2 5 (MX.mv 1 6 (MX.mv 1 8 MX.done)))) 1 7 (MX.mv 2 2 (MX.mv 2 5 (MX.mv 1 6 (MX.mv 1 8 MX.done))))))))) ?_ (by kernel_rfl) ?_; rfl)) | ((with_reducible refine ECall.mark ?_); first | refine ECall.only ?_ (fun h => nomatch h) | refine ECall.only ?_ ?_) | ((with_reducible refine Drawn.mark ?_); first | (refine Drawn.tree ?_; refine Tri.treeX [4, 5] (MX.mv 0 0 (MX.mv 0 1 (MX.mv 0 3 (MX.mv 0 4 (MX.two 2 2 (MX.two 2 5 (MX.two 1 6 (MX.mv 1 7 (MX.mv 1 8 MX.done)) 1 7 (MX.mv 1 6 (MX.mv 1 8 MX.done))) 1 7 (MX.mv 2 5 (MX.mv 1 6 (MX.mv 1 8 MX.done)))) 1 7 (MX.mv 2 2 (MX.mv 2 5 (MX.mv 1 6 (MX.mv 1 8 MX.done))))))))) ?_ (by kernel_rfl) ?_; rfl) | refine Drawn.quiet (by kernel_rfl) ?_) | refine dcell_ok rfl ?_ | refine AppC.new ?_))
    all_goals try (first | ((with_reducible refine enters_mark ?_); kernel_rfl) | ((with_reducible show Option.all _ _ = true); rfl))
    all_goals try first | ((with_reducible show Option.isSome (slElem _ _) = true); kernel_rfl) | ((with_reducible show slElem _ _ = some _); kernel_rfl) | ((with_reducible refine enters_mark ?_); kernel_rfl) | (with_reducible assumption) | ((with_reducible show List.all _ DV.one = true); rfl) | ((with_reducible show (_ : Nat) = _); rfl) | ((with_reducible show (_ == true) = true); simpa using h) | ((with_reducible show (_ : Nat) ≤ _); exact Nat.le_of_ble_eq_true rfl) | ((with_reducible show (_ : Int) ≤ _); first | omega | decide) | ((with_reducible show (_ : Int) < _); first | omega | decide) | ((with_reducible show (_ : Nat) < _); omega) | ((with_reducible show (_ : Nat) ≤ _); omega)
    all_goals try (conv => whnf)
    all_goals exact Tells.of (h1 hpre) (Tells.mk (DW.tupl (DWl.cons (DW.aggl (DWl.cons (DW.same _ rfl) (DWl.cons (DW.pubM (l := (sortL t ks).rows) (f := rowD) rfl (so_rl t ks) rfl rfl rowRow ((rwF_is _ _ _).trans (rowsC_eq _))) DWl.nil))) (DWl.cons (DW.same _ rfl) DWl.nil))))
end Go.Proofs.YtlchjjchgebfiaaGreatDoor
namespace Go.Proofs.YtlchjjchgebfiaaGreatDoor
open Go.RowKit Go.Dl Go.Dl.Stb
attribute [local irreducible] Tri SCall TSem ECall Drawn DFun QSem PSem PCall GCall MCall Round Go.Dl.Weak dloadE OW DWl Tells IntKind.wrap Retold ESem
theorem gt_is {x y : ByteArray} (h : lessB y x = true) : 0 < cmpT x y := by
  have h1 := less_asym h
  have h2 : ¬ cmpT x y < 0 := fun c => by rw [← cmp_less, decide_eq_true c] at h1; cases h1
  have h3 : cmpT x y ≠ 0 := fun c => by rw [(cmp_zero.1 c).2] at h; cases h
  omega
def ahSt (a b : List ByteArray) (ks : List Int) (i : Nat) : St := ⟨0, tmOf [(0, strs a), (1, strs b), (2, ints ks), (7, int1 i)], .of [] 0⟩
attribute [local irreducible] cmpK oneK
end Go.Proofs.YtlchjjchgebfiaaGreatDoor
namespace Go.Proofs.YtlchjjchgebfiaaGreatDoor
open Go.RowKit Go.Dl
attribute [local irreducible] Tri SCall TSem ECall Drawn DFun QSem PSem PCall GCall MCall Round Weak dloadE OW DWl Tells Retold ESem
attribute [local irreducible] rowsC
end Go.Proofs.YtlchjjchgebfiaaGreatDoor
namespace Go.Proofs.YtlchjjchgebfiaaGreatDoor
open Go.RowKit Go.Dl Go.Dl.Stb
attribute [local irreducible] Tri SCall TSem ECall Drawn DFun QSem PSem PCall GCall MCall Round Go.Dl.Weak dloadE OW DWl Tells IntKind.wrap Retold ESem
def kySt (t : Tb) (ks : List Int) (i : Nat) : St := ⟨0, tmOf [(1, ints ks), (2, .ref 0 0), (4, .ref 1 0), (5, int1 0), (6, int1 i)], .of [(0, ⟨25, 2, [strs t.head, rowsD t.rows]⟩), (1, ⟨25, 2, [.v (.slice none 0 0), .v (.slice none 0 0)]⟩)] 2⟩
def srO (t : Tb) (n : Nat) (f : Nat → Nat) : Sto := .of [(0, ⟨25, 2, [.v (.slice none 0 0), .v (.slice none 0 0)]⟩), (1, ⟨22, 1, rwF t.rows n f⟩), (2, ⟨25, 2, [strs t.head, .arr 1 n]⟩)] 3
def srSt (t : Tb) (ks : List Int) (n : Nat) (p : Nat × (Nat → Nat)) : St := ⟨0, tmOf [(1, ints ks), (4, .ref 0 0), (7, .ref 2 0), (8, int1 p.1)], srO t n p.2⟩
def srIn (t : Tb) (ks : List Int) (n i : Nat) (p : Nat × (Nat → Nat)) : St := ⟨0, tmOf [(1, ints ks), (4, .ref 0 0), (7, .ref 2 0), (8, int1 i), (9, int1 p.1)], srO t n p.2⟩
def sortG (t : Tb) (ks : List Int) : Tb := ⟨t.head, (List.range t.rows.length).map fun j => t.rows.getD (insF (ltK ks t.rows) 0 t.rows.length (fun i => i) j) []⟩
attribute [local irreducible] rwF cmpK
end Go.Proofs.YtlchjjchgebfiaaGreatDoor
namespace Go.Proofs.YtlchjjchgebfiaaGreatDoor
open Go.Dl Go.Dl.Stb
def ltO (k : Int) (a b : List ByteArray) : Bool := if k < 0 then lessB (b.getD (atK k).toNat emB) (a.getD (atK k).toNat emB) else lessB (a.getD (atK k).toNat emB) (b.getD (atK k).toNat emB)
theorem lt_iff {x y : ByteArray} : cmpT x y < 0 ↔ lessB x y = true := by rw [← cmp_less, decide_eq_true_eq]
theorem gt_iff {x y : ByteArray} : 0 < cmpT x y ↔ lessB y x = true := by
  refine ⟨fun h => ?_, gt_is⟩
  cases h1 : lessB y x with
  | true => rfl
  | false =>
    exfalso
    cases h2 : lessB x y with
    | true => have := lt_iff.2 h2; omega
    | false => have := cmp_zero.2 ⟨h2, h1⟩; omega
theorem one_lt {k : Int} {a b : List ByteArray} : oneK k a b < 0 ↔ ltO k a b = true := by
  unfold oneK ltO sgnK
  split
  · rw [← gt_iff]; omega
  · rw [← lt_iff]; omega
theorem one_gt {k : Int} {a b : List ByteArray} : 0 < oneK k a b ↔ ltO k b a = true := by
  unfold oneK ltO sgnK
  split
  · rw [← lt_iff]; omega
  · rw [← gt_iff]; omega
theorem ltO_asym {k : Int} {a b : List ByteArray} (h : ltO k a b = true) : ltO k b a = false := by
  unfold ltO at *
  split at h
  · rw [if_pos (by assumption)]; exact less_asym h
  · rw [if_neg (by assumption)]; exact less_asym h
theorem ltO_neg {k : Int} {a b c : List ByteArray} (h : ltO k a b = false) (h2 : ltO k b c = false) : ltO k a c = false := by
  unfold ltO at *
  by_cases hk : k < 0
  · rw [if_pos hk] at *; exact less_neg h2 h
  · rw [if_neg hk] at *; exact less_neg h h2
def ltR (ks : List Int) (a b : List ByteArray) : Bool := decide (cmpK ks a b < 0)
theorem ltR_cons (k : Int) (ks : List Int) (a b : List ByteArray) : ltR (k :: ks) a b = (ltO k a b || (!ltO k b a && ltR ks a b)) := by
  unfold ltR
  show decide ((bif oneK k a b != 0 then oneK k a b else cmpK ks a b) < 0) = _
  cases h1 : ltO k a b with
  | true =>
    have h := one_lt.2 h1
    rw [show (oneK k a b != 0) = true from bne_iff_ne.2 (by omega)]
    exact decide_eq_true h
  | false =>
    have n1 : ¬ oneK k a b < 0 := fun h => by rw [one_lt.1 h] at h1; cases h1
    cases h2 : ltO k b a with
    | true =>
      have h := one_gt.2 h2
      rw [show (oneK k a b != 0) = true from bne_iff_ne.2 (by omega)]
      exact decide_eq_false n1
    | false =>
      have n2 : ¬ 0 < oneK k a b := fun h => by rw [one_gt.1 h] at h2; cases h2
      rw [show oneK k a b = 0 by omega]; rfl
theorem ltR_asym : ∀ (ks : List Int) {a b : List ByteArray}, ltR ks a b = true → ltR ks b a = false
  | [], a, b, h => by cases h
  | k :: ks, a, b, h => by
    rw [ltR_cons] at h ⊢
    cases h1 : ltO k a b with
    | true => rw [ltO_asym h1]; rfl
    | false =>
      rw [h1] at h
      cases h2 : ltO k b a with
      | true => rw [h2] at h; cases h
      | false =>
        rw [h2] at h
        exact ltR_asym ks h
theorem ltR_neg : ∀ (ks : List Int) {a b c : List ByteArray}, ltR ks a b = false → ltR ks b c = false → ltR ks a c = false
  | [], a, b, c, _, _ => rfl
  | k :: ks, a, b, c, h1, h2 => by
    rw [ltR_cons] at h1 h2 ⊢
    rw [Bool.or_eq_false_iff] at h1 h2 ⊢
    obtain ⟨h1, g1⟩ := h1
    obtain ⟨h2, g2⟩ := h2
    have h3 := ltO_neg h1 h2
    refine ⟨h3, ?_⟩
    cases h4 : ltO k c a with
    | true => rfl
    | false =>
      have h5 : ltO k b a = false := by
        cases h : ltO k b a with
        | false => rfl
        | true => rw [ltO_neg h2 h4] at h; cases h
      have h6 : ltO k c b = false := by
        cases h : ltO k c b with
        | false => rfl
        | true => rw [ltO_neg h4 h1] at h; cases h
      rw [h5] at g1
      rw [h6] at g2
      exact ltR_neg ks g1 g2
theorem weakK (ks : List Int) (rows : List (List ByteArray)) : Stb.Weak (ltK ks rows) := ⟨fun _ _ h => ltR_asym ks h, fun _ _ _ h1 h2 => ltR_neg ks h1 h2⟩
end Go.Proofs.YtlchjjchgebfiaaGreatDoor
namespace Go.Proofs.YtlchjjchgebfiaaGreatDoor
open Go.RowKit Go.Dl Go.Dl.Stb
attribute [local irreducible] Tri SCall TSem ECall Drawn DFun QSem PSem PCall GCall MCall Round Go.Dl.Weak dloadE OW DWl Tells IntKind.wrap Retold ESem
def pgs (n s : Nat) : Nat := if 0 < n % s ∨ n = 0 then n / s + 1 else n / s
def pgLo (s a : Nat) : Nat := a * s
def pgHi (n s a : Nat) : Nat := min n (a * s + s)
def pgV (t : Tb) (size at_ : Int) : Tb × Int × Int :=
  if size < 1 then (⟨[], []⟩, 0, 31) else
  if at_ < 0 ∨ (pgs t.rows.length size.toNat : Int) ≤ at_ then (⟨[], []⟩, pgs t.rows.length size.toNat, 44) else
  (⟨t.head, (t.rows.take (pgHi t.rows.length size.toNat at_.toNat)).drop (pgLo size.toNat at_.toNat)⟩, pgs t.rows.length size.toNat, 0)
def pgR (r : Tb × Int × Int) : DV := .tup [tab r.1, int1 r.2.1, int1 r.2.2]
theorem pg_q {n s : Nat} (hn : n ≤ 4096) : IntKind.i64.wrap (Int.tdiv (n : Int) (s : Int)) = ((n / s : Nat) : Int) := by
  rw [Int.tdiv_eq_ediv_of_nonneg (Int.natCast_nonneg _), ← Int.natCast_ediv]
  have : n / s ≤ n := Nat.div_le_self _ _
  generalize n / s = q at *
  exact wrapI (by omega) (by omega)
theorem pg_q1 {n s : Nat} (hn : n ≤ 4096) : IntKind.i64.wrap (IntKind.i64.wrap (Int.tdiv (n : Int) (s : Int)) + 1) = ((n / s + 1 : Nat) : Int) := by
  rw [pg_q hn]
  have : n / s ≤ n := Nat.div_le_self _ _
  generalize n / s = q at *
  rw [wrapI (by omega) (by omega)]; omega
theorem pg_r {n s : Nat} : Int.tmod (n : Int) (s : Int) = ((n % s : Nat) : Int) := by
  rw [Int.tmod_eq_emod_of_nonneg (Int.natCast_nonneg _), ← Int.natCast_emod]
theorem pg_t {n s : Nat} (h : 0 < n % s ∨ n = 0) : (bif decide ((0 : Int) < ((n % s : Nat) : Int)) then true else ((n : Nat) : Int) == 0) = true := by
  rcases h with h | h
  · rw [decide_eq_true (by omega)]; rfl
  · subst h; cases decide ((0 : Int) < ((0 % s : Nat) : Int)) <;> rfl
theorem pg_f {n s : Nat} (h : ¬ (0 < n % s ∨ n = 0)) : (bif decide ((0 : Int) < ((n % s : Nat) : Int)) then true else ((n : Nat) : Int) == 0) = false := by
  rw [decide_eq_false (by omega), show (((n : Nat) : Int) == 0) = false from beq_eq_false_iff_ne.2 (by omega)]; rfl
theorem pg_bad {p x : Int} (h : x < 0 ∨ p ≤ x) : (bif decide (x < 0) then true else decide (p ≤ x)) = true := by
  rcases h with h | h
  · rw [decide_eq_true h]; rfl
  · rw [decide_eq_true h]; cases decide (x < 0) <;> rfl
theorem pg_good {p x : Int} (h : ¬ (x < 0 ∨ p ≤ x)) : (bif decide (x < 0) then true else decide (p ≤ x)) = false := by
  rw [decide_eq_false (fun c => h (.inl c)), decide_eq_false (fun c => h (.inr c))]; rfl
theorem pg_le {N s a : Nat} (_hs1 : 1 ≤ s) (ha : a < pgs N s) : a * s ≤ N ∧ (N < s → a = 0) := by
  unfold pgs at ha
  have h2 := Nat.div_add_mod N s
  have h3 := Nat.div_mul_le_self N s
  split at ha
  · have h1 : a * s ≤ N / s * s := Nat.mul_le_mul_right s (by omega)
    refine ⟨by omega, fun h => ?_⟩
    rw [Nat.div_eq_of_lt h] at ha; omega
  · have h1 : a * s ≤ N / s * s := Nat.mul_le_mul_right s (by omega)
    refine ⟨by omega, fun h => ?_⟩
    rw [Nat.div_eq_of_lt h] at ha; omega
theorem pg_e1 {N s a : Nat} (hN : N ≤ 4096) (hs1 : 1 ≤ s) (ha : a < pgs N s) : IntKind.i64.wrap ((a : Int) * (if (N : Int) < (s : Int) then (N : Int) else (s : Int))) = ((pgLo s a : Nat) : Int) := by
  obtain ⟨h1, h2⟩ := pg_le hs1 ha
  unfold pgLo
  by_cases h : N < s
  · rw [if_pos (by omega), h2 h, Nat.zero_mul]; simp [IntKind.wrap_i64]
  · rw [if_neg (by omega), ← Int.natCast_mul]
    generalize a * s = L at *
    exact wrapI (by omega) (by omega)
theorem pg_e2 {N s a : Nat} {lo : Int} (hN : N ≤ 4096) (hs1 : 1 ≤ s) (ha : a < pgs N s) (e : lo = ((pgLo s a : Nat) : Int)) : (if IntKind.i64.wrap (lo + (if (N : Int) < (s : Int) then (N : Int) else (s : Int))) < (N : Int) then IntKind.i64.wrap (lo + (if (N : Int) < (s : Int) then (N : Int) else (s : Int))) else (N : Int)) = ((pgHi N s a : Nat) : Int) := by
  obtain ⟨h1, h2⟩ := pg_le hs1 ha
  subst e
  unfold pgHi pgLo
  by_cases h : N < s
  · rw [if_pos (show (N : Int) < (s : Int) by omega), h2 h, Nat.zero_mul, wrapI (by omega) (by omega), if_neg (by omega)]; omega
  · rw [if_neg (show ¬ (N : Int) < (s : Int) by omega)]
    generalize a * s = L at *
    rw [wrapI (by omega) (by omega)]
    split <;> omega
theorem pg_lh {N s a : Nat} (hs1 : 1 ≤ s) (ha : a < pgs N s) : pgLo s a ≤ pgHi N s a ∧ pgHi N s a ≤ N := by
  obtain ⟨h1, h2⟩ := pg_le hs1 ha
  unfold pgLo pgHi; omega
theorem pg_mem {l : List (List ByteArray)} {a b : Nat} {r : List ByteArray} (h : r ∈ (l.take a).drop b) : r ∈ l := List.mem_of_mem_take (List.mem_of_mem_drop h)
theorem pg_list {l : List (List ByteArray)} {x y : Int} {a b : Nat} (h1 : x = ((a : Nat) : Int)) (h2 : y = ((b : Nat) : Int)) : ((l.map rowD).take x.toNat).drop y.toNat = ((l.take a).drop b).map rowD := by
  rw [h1, h2, Int.toNat_natCast, Int.toNat_natCast, ← List.map_take, ← List.map_drop]
theorem bt_x {b c : Bool} (h : b = c) (k : b = !c) : False := by subst h; cases b <;> cases k
set_option maxRecDepth 20000 in
set_option maxHeartbeats 4000000 in
theorem page22_D (t : Tb) (hh1 : 1 ≤ t.head.length) (hh2 : t.head.length ≤ 4096) (hrw : t.rows.length ≤ 4096 ∧ ∀ r ∈ t.rows, 1 ≤ r.length ∧ r.length ≤ 4096) (size at_ : Int) (hs : KIn size) (ha : KIn at_) : DPure Tryz.prog 22 [tab t, int1 size, int1 at_] (pgR (pgV t size at_)) := by
  by_cases h1 : size < 1
  · rw [show pgV t size at_ = ((⟨[], []⟩, 0, 31) : Tb × Int × Int) by unfold pgV; rw [if_pos h1]]
    refine DFun.data (DFun.body Tryz.func22 rfl (by kernel_rfl) ?_)
    repeat' (first | with_reducible rfl | ((conv => whnf); first | refine And.intro ?_ ?_ | (intro h; first | with_reducible exact tf_no h | with_reducible exact ft_no h | exact Bool.noConfusion h | with_reducible exact h | (exfalso; exact dn_t h1 h) | (have ht : true = true := h; clear ht h) | skip) | ((with_reducible refine ECall.mark ?_); first | refine ECall.only ?_ (fun h => nomatch h) | refine ECall.only ?_ ?_) | ((with_reducible refine Drawn.mark ?_); first | refine Drawn.quiet (by kernel_rfl) ?_) | refine dcell_ok rfl ?_ | refine AppC.new ?_))
    all_goals try first | ((with_reducible show Option.isSome (slElem _ _) = true); kernel_rfl) | ((with_reducible show slElem _ _ = some _); kernel_rfl) | ((with_reducible refine enters_mark ?_); kernel_rfl) | (with_reducible assumption) | ((with_reducible show List.all _ DV.one = true); rfl) | ((with_reducible show (_ : Nat) = _); rfl) | ((with_reducible show (_ == true) = true); simpa using h) | ((with_reducible show (_ : Nat) ≤ _); exact Nat.le_of_ble_eq_true rfl) | ((with_reducible show (_ : Int) ≤ _); first | omega | decide) | ((with_reducible show (_ : Int) < _); first | omega | decide) | ((with_reducible show (_ : Nat) < _); omega) | ((with_reducible show (_ : Nat) ≤ _); omega)
    conv => whnf
    exact Tells.mk (DW.tupl (DWl.cons (DW.aggl (DWl.cons (DW.nilLst _) (DWl.cons (DW.nilLst _) DWl.nil))) (DWl.cons (DW.same _ rfl) (DWl.cons (DW.same _ rfl) DWl.nil))))
  · obtain ⟨s, hs2⟩ : ∃ s : Nat, size = s := ⟨size.toNat, by omega⟩
    subst hs2
    have hs1 : 1 ≤ s := by omega
    have hlen : (t.rows.map rowD).length = t.rows.length := List.length_map _
    have hN : (t.rows.map rowD).length ≤ 4096 := by rw [hlen]; exact hrw.1
    have hs0 : ((s : Nat) : Int) ≠ 0 := by omega
    by_cases hx : 0 < (t.rows.map rowD).length % s ∨ (t.rows.map rowD).length = 0
    · have t1 : (bif decide ((0 : Int) < Int.tmod (((t.rows.map rowD).length : Nat) : Int) (s : Int)) then true else (((t.rows.map rowD).length : Nat) : Int) == 0) = true := by rw [pg_r]; exact pg_t hx
      have hp : pgs t.rows.length s = (t.rows.map rowD).length / s + 1 := by rw [← hlen]; unfold pgs; rw [if_pos hx]
      by_cases hb : at_ < 0 ∨ (((t.rows.map rowD).length / s + 1 : Nat) : Int) ≤ at_
      · have t2 : (bif decide (at_ < 0) then true else decide (IntKind.i64.wrap (IntKind.i64.wrap (Int.tdiv (((t.rows.map rowD).length : Nat) : Int) (s : Int)) + 1) ≤ at_)) = true := by rw [pg_q1 hN]; exact pg_bad hb
        rw [show pgV t s at_ = ((⟨[], []⟩, (((t.rows.map rowD).length / s + 1 : Nat) : Int), 44) : Tb × Int × Int) by unfold pgV; rw [if_neg h1, Int.toNat_natCast, hp, if_pos hb]]
        refine DFun.data (DFun.body Tryz.func22 rfl (by kernel_rfl) ?_)
        repeat' (first | with_reducible rfl | ((conv => whnf); first | refine And.intro ?_ ?_ | (intro h; first | with_reducible exact tf_no h | with_reducible exact ft_no h | exact Bool.noConfusion h | with_reducible exact h | (exfalso; exact dn_f h1 h) | (exfalso; exact bt_x t1 h) | (exfalso; exact bt_x t2 h) | (have ht : true = true := h; clear ht h) | skip) | ((with_reducible refine ECall.mark ?_); first | refine ECall.only ?_ (fun h => nomatch h) | refine ECall.only ?_ ?_) | ((with_reducible refine Drawn.mark ?_); first | refine Drawn.quiet (by kernel_rfl) ?_) | refine dcell_ok rfl ?_ | refine AppC.new ?_))
        all_goals try first | ((with_reducible show Option.isSome (slElem _ _) = true); kernel_rfl) | ((with_reducible show slElem _ _ = some _); kernel_rfl) | ((with_reducible refine enters_mark ?_); kernel_rfl) | (with_reducible assumption) | ((with_reducible show List.all _ DV.one = true); rfl) | ((with_reducible show (_ : Nat) = _); rfl) | ((with_reducible show (_ == true) = true); simpa using h) | ((with_reducible show (_ : Nat) ≤ _); exact Nat.le_of_ble_eq_true rfl) | ((with_reducible show (_ : Int) ≤ _); first | omega | decide) | ((with_reducible show (_ : Int) < _); first | omega | decide) | ((with_reducible show (_ : Nat) < _); omega) | ((with_reducible show (_ : Nat) ≤ _); omega)
        all_goals try (first | ((with_reducible show False); exact hs0 h) | (with_reducible exact tnb h))
        conv => whnf
        exact Tells.mk (DW.tupl (DWl.cons (DW.aggl (DWl.cons (DW.nilLst _) (DWl.cons (DW.nilLst _) DWl.nil))) (DWl.cons (DW.int (pg_q1 hN)) (DWl.cons (DW.same _ rfl) DWl.nil))))
      · have t2 : (bif decide (at_ < 0) then true else decide (IntKind.i64.wrap (IntKind.i64.wrap (Int.tdiv (((t.rows.map rowD).length : Nat) : Int) (s : Int)) + 1) ≤ at_)) = false := by rw [pg_q1 hN]; exact pg_good hb
        obtain ⟨a, ha2⟩ : ∃ a : Nat, at_ = a := ⟨at_.toNat, by omega⟩
        subst ha2
        rw [show pgV t s a = ((⟨t.head, (t.rows.take (pgHi t.rows.length s a)).drop (pgLo s a)⟩, (((t.rows.map rowD).length / s + 1 : Nat) : Int), 0) : Tb × Int × Int) by unfold pgV; rw [if_neg h1, Int.toNat_natCast, hp, if_neg hb, Int.toNat_natCast]]
        have hap : a < pgs (t.rows.map rowD).length s := by rw [hlen, hp]; omega
        have e1 := pg_e1 hN hs1 hap
        have e2 := (pg_e2 hN hs1 hap e1).trans (congrArg (fun n => ((pgHi n s a : Nat) : Int)) hlen)
        have e3 := pg_lh hs1 hap
        rw [hlen] at e3
        have na : (decide ((a : Int) < 0) == false) = true := by rw [decide_eq_false (by omega)]; rfl
        generalize hL : (t.rows.take (pgHi t.rows.length s a)).drop (pgLo s a) = L
        have el := fun (x y : Int) (h1 : x = _) (h2 : y = _) => (pg_list (l := t.rows) (x := x) (y := y) (a := pgHi t.rows.length s a) (b := pgLo s a) h1 h2).trans (congrArg (List.map rowD) hL)
        have hw := rows57_S L (by rw [← hL, List.length_drop, List.length_take]; omega) (fun r hr => hrw.2 r (pg_mem (hL ▸ hr)))
        refine DFun.data (DFun.body Tryz.func22 rfl (by kernel_rfl) ?_)
        repeat' (first | with_reducible rfl | ((conv => whnf); first | refine And.intro ?_ ?_ | (intro h; first | with_reducible exact tf_no h | with_reducible exact ft_no h | exact Bool.noConfusion h | with_reducible exact h | (exfalso; exact dn_f h1 h) | (exfalso; exact bt_x t1 h) | (exfalso; exact bt_x t2 h) | (have ht : true = true := h; clear ht h) | skip) | ((with_reducible refine SCall.mark ?_); first | refine SCall.data (clone56_D t.head hh1 hh2) rfl rfl ?_ | refine SCall.scal (clone56_D t.head hh1 hh2) rfl rfl ?_ | refine SCall.at [] (fun m => [(m, ⟨22, 1, rowsC L⟩)]) (fun m => .arr m L.length) 1 hw (by kernel_rfl) trivial (DWl.cons (DW.lstE (el _ _ e2 e1)) DWl.nil) (DW.arr _ _ _ rfl) ⟨OW.cells rfl rfl (DWl.eq rfl (rowsC_all _)), trivial⟩ ?_) | ((with_reducible refine PCall.mark ?_); first | refine PCall.mk (clone56_D t.head hh1 hh2) rfl rfl ?_) | ((with_reducible refine GCall.mark ?_); first | refine GCall.data (fun _ => clone56_D t.head hh1 hh2) rfl rfl ?_ | refine GCall.scal (fun _ => clone56_D t.head hh1 hh2) rfl rfl ?_) | ((with_reducible refine MCall.mark ?_); first | refine MCall.data (fun _ => clone56_D t.head hh1 hh2) rfl rfl ?_ | refine MCall.plain (PCall.mk (clone56_D t.head hh1 hh2) rfl rfl ?_)) | ((with_reducible refine Tri.mark ?_); first | (refine Tri.treeX [1, 2] (MX.mv 0 0 (MX.mv 0 1 (MX.mv 0 3 (MX.mv 0 4 (MX.mv 0 5 (MX.mv 0 6 (MX.mv 0 7 (MX.mv 0 8 (MX.mv 0 9 (MX.mv 0 10 (MX.mv 0 11 (MX.mv 0 12 (MX.mv 0 13 (MX.mv 0 16 (MX.mv 2 2 (MX.mv 2 14 (MX.mv 1 15 (MX.mv 1 17 (MX.mv 1 18 (MX.mv 1 19 MX.done)))))))))))))))))))) ?_ (by kernel_rfl) ?_; rfl)) | ((with_reducible refine ECall.mark ?_); first | refine ECall.only ?_ (fun h => nomatch h) | refine ECall.only ?_ ?_) | ((with_reducible refine Drawn.mark ?_); first | (refine Drawn.tree ?_; refine Tri.treeX [1, 2] (MX.mv 0 0 (MX.mv 0 1 (MX.mv 0 3 (MX.mv 0 4 (MX.mv 0 5 (MX.mv 0 6 (MX.mv 0 7 (MX.mv 0 8 (MX.mv 0 9 (MX.mv 0 10 (MX.mv 0 11 (MX.mv 0 12 (MX.mv 0 13 (MX.mv 0 16 (MX.mv 2 2 (MX.mv 2 14 (MX.mv 1 15 (MX.mv 1 17 (MX.mv 1 18 (MX.mv 1 19 MX.done)))))))))))))))))))) ?_ (by kernel_rfl) ?_; rfl) | refine Drawn.quiet (by kernel_rfl) ?_) | refine dcell_ok rfl ?_ | refine AppC.new ?_))
        all_goals try first | ((with_reducible show Option.isSome (slElem _ _) = true); kernel_rfl) | ((with_reducible show slElem _ _ = some _); kernel_rfl) | ((with_reducible refine enters_mark ?_); kernel_rfl) | (with_reducible assumption) | ((with_reducible show List.all _ DV.one = true); rfl) | ((with_reducible show (_ : Nat) = _); rfl) | ((with_reducible show (_ == true) = true); simpa using h) | ((with_reducible show (_ : Nat) ≤ _); exact Nat.le_of_ble_eq_true rfl) | ((with_reducible show (_ : Int) ≤ _); first | omega | decide) | ((with_reducible show (_ : Int) < _); first | omega | decide) | ((with_reducible show (_ : Nat) < _); omega) | ((with_reducible show (_ : Nat) ≤ _); omega)
        all_goals try (first | ((with_reducible show False); exact hs0 h) | (with_reducible exact tnb h) | ((with_reducible show (0 : Int) ≤ _); rw [e1]; exact Int.natCast_nonneg _) | (with_reducible exact na) | ((with_reducible show (_ : Int) ≤ (_ : Int)); rw [e2]; first | (rw [e1]; exact Int.ofNat_le.2 e3.1) | (rw [hlen]; exact Int.ofNat_le.2 e3.2)))
        repeat' (first | with_reducible rfl | ((conv => whnf); first | refine And.intro ?_ ?_ | (intro h; first | with_reducible exact tf_no h | with_reducible exact ft_no h | exact Bool.noConfusion h | with_reducible exact h | (have ht : true = true := h; clear ht h) | skip) | ((with_reducible refine ECall.mark ?_); first | refine ECall.only ?_ (fun h => nomatch h) | refine ECall.only ?_ ?_) | ((with_reducible refine Drawn.mark ?_); first | refine Drawn.quiet (by kernel_rfl) ?_) | refine dcell_ok rfl ?_ | refine AppC.new ?_))
        all_goals try (first | ((with_reducible show _ ≤ _); exact Nat.le_refl _) | ((with_reducible show Option.all _ _ = true); rfl))
        all_goals try first | ((with_reducible show Option.isSome (slElem _ _) = true); kernel_rfl) | ((with_reducible show slElem _ _ = some _); kernel_rfl) | ((with_reducible refine enters_mark ?_); kernel_rfl) | (with_reducible assumption) | ((with_reducible show List.all _ DV.one = true); rfl) | ((with_reducible show (_ : Nat) = _); rfl) | ((with_reducible show (_ == true) = true); simpa using h) | ((with_reducible show (_ : Nat) ≤ _); exact Nat.le_of_ble_eq_true rfl) | ((with_reducible show (_ : Int) ≤ _); first | omega | decide) | ((with_reducible show (_ : Int) < _); first | omega | decide) | ((with_reducible show (_ : Nat) < _); omega) | ((with_reducible show (_ : Nat) ≤ _); omega)
        conv => whnf
        exact Tells.mk (DW.tupl (DWl.cons (DW.aggl (DWl.cons (DW.same _ rfl) (DWl.cons (DW.pubM (l := L) (f := rowD) rfl rfl rfl rfl rowRow (rowsC_eq _)) DWl.nil))) (DWl.cons (DW.int (pg_q1 hN)) (DWl.cons (DW.same _ rfl) DWl.nil))))
    · have t1 : (bif decide ((0 : Int) < Int.tmod (((t.rows.map rowD).length : Nat) : Int) (s : Int)) then true else (((t.rows.map rowD).length : Nat) : Int) == 0) = false := by rw [pg_r]; exact pg_f hx
      have hp : pgs t.rows.length s = (t.rows.map rowD).length / s := by rw [← hlen]; unfold pgs; rw [if_neg hx]
      by_cases hb : at_ < 0 ∨ (((t.rows.map rowD).length / s : Nat) : Int) ≤ at_
      · have t2 : (bif decide (at_ < 0) then true else decide (IntKind.i64.wrap (Int.tdiv (((t.rows.map rowD).length : Nat) : Int) (s : Int)) ≤ at_)) = true := by rw [pg_q hN]; exact pg_bad hb
        rw [show pgV t s at_ = ((⟨[], []⟩, (((t.rows.map rowD).length / s : Nat) : Int), 44) : Tb × Int × Int) by unfold pgV; rw [if_neg h1, Int.toNat_natCast, hp, if_pos hb]]
        refine DFun.data (DFun.body Tryz.func22 rfl (by kernel_rfl) ?_)
        repeat' (first | with_reducible rfl | ((conv => whnf); first | refine And.intro ?_ ?_ | (intro h; first | with_reducible exact tf_no h | with_reducible exact ft_no h | exact Bool.noConfusion h | with_reducible exact h | (exfalso; exact dn_f h1 h) | (exfalso; exact bt_x t1 h) | (exfalso; exact bt_x t2 h) | (have ht : true = true := h; clear ht h) | skip) | ((with_reducible refine ECall.mark ?_); first | refine ECall.only ?_ (fun h => nomatch h) | refine ECall.only ?_ ?_) | ((with_reducible refine Drawn.mark ?_); first | refine Drawn.quiet (by kernel_rfl) ?_) | refine dcell_ok rfl ?_ | refine AppC.new ?_))
        all_goals try first | ((with_reducible show Option.isSome (slElem _ _) = true); kernel_rfl) | ((with_reducible show slElem _ _ = some _); kernel_rfl) | ((with_reducible refine enters_mark ?_); kernel_rfl) | (with_reducible assumption) | ((with_reducible show List.all _ DV.one = true); rfl) | ((with_reducible show (_ : Nat) = _); rfl) | ((with_reducible show (_ == true) = true); simpa using h) | ((with_reducible show (_ : Nat) ≤ _); exact Nat.le_of_ble_eq_true rfl) | ((with_reducible show (_ : Int) ≤ _); first | omega | decide) | ((with_reducible show (_ : Int) < _); first | omega | decide) | ((with_reducible show (_ : Nat) < _); omega) | ((with_reducible show (_ : Nat) ≤ _); omega)
        all_goals try (first | ((with_reducible show False); exact hs0 h) | (with_reducible exact tnb h))
        conv => whnf
        exact Tells.mk (DW.tupl (DWl.cons (DW.aggl (DWl.cons (DW.nilLst _) (DWl.cons (DW.nilLst _) DWl.nil))) (DWl.cons (DW.int (pg_q hN)) (DWl.cons (DW.same _ rfl) DWl.nil))))
      · have t2 : (bif decide (at_ < 0) then true else decide (IntKind.i64.wrap (Int.tdiv (((t.rows.map rowD).length : Nat) : Int) (s : Int)) ≤ at_)) = false := by rw [pg_q hN]; exact pg_good hb
        obtain ⟨a, ha2⟩ : ∃ a : Nat, at_ = a := ⟨at_.toNat, by omega⟩
        subst ha2
        rw [show pgV t s a = ((⟨t.head, (t.rows.take (pgHi t.rows.length s a)).drop (pgLo s a)⟩, (((t.rows.map rowD).length / s : Nat) : Int), 0) : Tb × Int × Int) by unfold pgV; rw [if_neg h1, Int.toNat_natCast, hp, if_neg hb, Int.toNat_natCast]]
        have hap : a < pgs (t.rows.map rowD).length s := by rw [hlen, hp]; omega
        have e1 := pg_e1 hN hs1 hap
        have e2 := (pg_e2 hN hs1 hap e1).trans (congrArg (fun n => ((pgHi n s a : Nat) : Int)) hlen)
        have e3 := pg_lh hs1 hap
        rw [hlen] at e3
        have na : (decide ((a : Int) < 0) == false) = true := by rw [decide_eq_false (by omega)]; rfl
        generalize hL : (t.rows.take (pgHi t.rows.length s a)).drop (pgLo s a) = L
        have el := fun (x y : Int) (h1 : x = _) (h2 : y = _) => (pg_list (l := t.rows) (x := x) (y := y) (a := pgHi t.rows.length s a) (b := pgLo s a) h1 h2).trans (congrArg (List.map rowD) hL)
        have hw := rows57_S L (by rw [← hL, List.length_drop, List.length_take]; omega) (fun r hr => hrw.2 r (pg_mem (hL ▸ hr)))
        refine DFun.data (DFun.body Tryz.func22 rfl (by kernel_rfl) ?_)
        repeat' (first | with_reducible rfl | ((conv => whnf); first | refine And.intro ?_ ?_ | (intro h; first | with_reducible exact tf_no h | with_reducible exact ft_no h | exact Bool.noConfusion h | with_reducible exact h | (exfalso; exact dn_f h1 h) | (exfalso; exact bt_x t1 h) | (exfalso; exact bt_x t2 h) | (have ht : true = true := h; clear ht h) | skip) | ((with_reducible refine SCall.mark ?_); first | refine SCall.data (clone56_D t.head hh1 hh2) rfl rfl ?_ | refine SCall.scal (clone56_D t.head hh1 hh2) rfl rfl ?_ | refine SCall.at [] (fun m => [(m, ⟨22, 1, rowsC L⟩)]) (fun m => .arr m L.length) 1 hw (by kernel_rfl) trivial (DWl.cons (DW.lstE (el _ _ e2 e1)) DWl.nil) (DW.arr _ _ _ rfl) ⟨OW.cells rfl rfl (DWl.eq rfl (rowsC_all _)), trivial⟩ ?_) | ((with_reducible refine PCall.mark ?_); first | refine PCall.mk (clone56_D t.head hh1 hh2) rfl rfl ?_) | ((with_reducible refine GCall.mark ?_); first | refine GCall.data (fun _ => clone56_D t.head hh1 hh2) rfl rfl ?_ | refine GCall.scal (fun _ => clone56_D t.head hh1 hh2) rfl rfl ?_) | ((with_reducible refine MCall.mark ?_); first | refine MCall.data (fun _ => clone56_D t.head hh1 hh2) rfl rfl ?_ | refine MCall.plain (PCall.mk (clone56_D t.head hh1 hh2) rfl rfl ?_)) | ((with_reducible refine Tri.mark ?_); first | (refine Tri.treeX [1, 2] (MX.mv 0 0 (MX.mv 0 1 (MX.mv 0 3 (MX.mv 0 4 (MX.mv 0 5 (MX.mv 0 6 (MX.mv 0 7 (MX.mv 0 8 (MX.mv 0 9 (MX.mv 0 10 (MX.mv 0 11 (MX.mv 0 12 (MX.mv 0 13 (MX.mv 0 16 (MX.mv 2 2 (MX.mv 2 14 (MX.mv 1 15 (MX.mv 1 17 (MX.mv 1 18 (MX.mv 1 19 MX.done)))))))))))))))))))) ?_ (by kernel_rfl) ?_; rfl)) | ((with_reducible refine ECall.mark ?_); first | refine ECall.only ?_ (fun h => nomatch h) | refine ECall.only ?_ ?_) | ((with_reducible refine Drawn.mark ?_); first | (refine Drawn.tree ?_; refine Tri.treeX [1, 2] (MX.mv 0 0 (MX.mv 0 1 (MX.mv 0 3 (MX.mv 0 4 (MX.mv 0 5 (MX.mv 0 6 (MX.mv 0 7 (MX.mv 0 8 (MX.mv 0 9 (MX.mv 0 10 (MX.mv 0 11 (MX.mv 0 12 (MX.mv 0 13 (MX.mv 0 16 (MX.mv 2 2 (MX.mv 2 14 (MX.mv 1 15 (MX.mv 1 17 (MX.mv 1 18 (MX.mv 1 19 MX.done)))))))))))))))))))) ?_ (by kernel_rfl) ?_; rfl) | refine Drawn.quiet (by kernel_rfl) ?_) | refine dcell_ok rfl ?_ | refine AppC.new ?_))
        all_goals try first | ((with_reducible show Option.isSome (slElem _ _) = true); kernel_rfl) | ((with_reducible show slElem _ _ = some _); kernel_rfl) | ((with_reducible refine enters_mark ?_); kernel_rfl) | (with_reducible assumption) | ((with_reducible show List.all _ DV.one = true); rfl) | ((with_reducible show (_ : Nat) = _); rfl) | ((with_reducible show (_ == true) = true); simpa using h) | ((with_reducible show (_ : Nat) ≤ _); exact Nat.le_of_ble_eq_true rfl) | ((with_reducible show (_ : Int) ≤ _); first | omega | decide) | ((with_reducible show (_ : Int) < _); first | omega | decide) | ((with_reducible show (_ : Nat) < _); omega) | ((with_reducible show (_ : Nat) ≤ _); omega)
        all_goals try (first | ((with_reducible show False); exact hs0 h) | (with_reducible exact tnb h) | ((with_reducible show (0 : Int) ≤ _); rw [e1]; exact Int.natCast_nonneg _) | (with_reducible exact na) | ((with_reducible show (_ : Int) ≤ (_ : Int)); rw [e2]; first | (rw [e1]; exact Int.ofNat_le.2 e3.1) | (rw [hlen]; exact Int.ofNat_le.2 e3.2)))
        repeat' (first | with_reducible rfl | ((conv => whnf); first | refine And.intro ?_ ?_ | (intro h; first | with_reducible exact tf_no h | with_reducible exact ft_no h | exact Bool.noConfusion h | with_reducible exact h | (have ht : true = true := h; clear ht h) | skip) | ((with_reducible refine ECall.mark ?_); first | refine ECall.only ?_ (fun h => nomatch h) | refine ECall.only ?_ ?_) | ((with_reducible refine Drawn.mark ?_); first | refine Drawn.quiet (by kernel_rfl) ?_) | refine dcell_ok rfl ?_ | refine AppC.new ?_))
        all_goals try (first | ((with_reducible show _ ≤ _); exact Nat.le_refl _) | ((with_reducible show Option.all _ _ = true); rfl))
        all_goals try first | ((with_reducible show Option.isSome (slElem _ _) = true); kernel_rfl) | ((with_reducible show slElem _ _ = some _); kernel_rfl) | ((with_reducible refine enters_mark ?_); kernel_rfl) | (with_reducible assumption) | ((with_reducible show List.all _ DV.one = true); rfl) | ((with_reducible show (_ : Nat) = _); rfl) | ((with_reducible show (_ == true) = true); simpa using h) | ((with_reducible show (_ : Nat) ≤ _); exact Nat.le_of_ble_eq_true rfl) | ((with_reducible show (_ : Int) ≤ _); first | omega | decide) | ((with_reducible show (_ : Int) < _); first | omega | decide) | ((with_reducible show (_ : Nat) < _); omega) | ((with_reducible show (_ : Nat) ≤ _); omega)
        conv => whnf
        exact Tells.mk (DW.tupl (DWl.cons (DW.aggl (DWl.cons (DW.same _ rfl) (DWl.cons (DW.pubM (l := L) (f := rowD) rfl rfl rfl rfl rowRow (rowsC_eq _)) DWl.nil))) (DWl.cons (DW.int (pg_q hN)) (DWl.cons (DW.same _ rfl) DWl.nil))))
end Go.Proofs.YtlchjjchgebfiaaGreatDoor
namespace Go.Proofs.YtlchjjchgebfiaaGreatDoor
open Go.RowKit Go.Dl Go.Dl.Stb
attribute [local irreducible] Tri SCall TSem ECall Drawn DFun QSem PSem PCall GCall MCall Round Go.Dl.Weak dloadE OW DWl Tells IntKind.wrap Retold ESem
end Go.Proofs.YtlchjjchgebfiaaGreatDoor
namespace Go.Proofs.YtlchjjchgebfiaaGreatDoor
open Go.RowKit Go.Dl Go.Shelf Go.Sort
theorem ok_self {s : ByteArray} (h : numOk s = true) : numB (numN s) = s := by
  unfold numOk at h
  unfold numN
  split at h
  · rename_i v e
    rw [e]
    exact ba_eq.1 h
  · cases h
theorem less_tot {a b : ByteArray} (h1 : lessB a b = false) (h2 : lessB b a = false) : a = b := by
  unfold lessB at h1 h2
  cases ha : numOk a with
  | true =>
    cases hb : numOk b with
    | true =>
      rw [ha, hb] at h1 h2
      have g1 : ¬ (numD a).1 < (numD b).1 := of_decide_eq_false h1
      have g2 : ¬ (numD b).1 < (numD a).1 := of_decide_eq_false h2
      have e1 := (num_to (s := a) (by rw [num_ok]; exact ha)).2
      have e2 := (num_to (s := b) (by rw [num_ok]; exact hb)).2
      rw [← ok_self ha, ← ok_self hb, e1, e2, show (numD a).1 = (numD b).1 by omega]
    | false => rw [ha, hb] at h1; cases h1
  | false =>
    cases hb : numOk b with
    | true => rw [ha, hb] at h2; cases h2
    | false =>
      rw [ha, hb] at h1 h2
      have h1 : ltB a b = false := h1
      have h2 : ltB b a = false := h2
      rw [ltB, bytesLess_is] at h1 h2
      simp only [decide_eq_false_iff_not, List.not_lt] at h1 h2
      have : a.toList = b.toList := List.le_antisymm h2 h1
      exact ba_data (by simpa [ByteArray.toList_eq] using this)
abbrev Cel : Type := {s : ByteArray // s.size ≤ 1024}
instance : Inhabited Cel := ⟨⟨emB, by decide⟩⟩
def encC (x : Cel) : Value := .string x.1
def cfC (x y : Cel) : Int := cmpT x.1 y.1
theorem ltC (x y : Cel) : ltOf cfC x y = lessB x.1 y.1 := cmp_less _ _
theorem less_irr (a : ByteArray) : lessB a a = false := by
  cases h : lessB a a with
  | false => rfl
  | true => exact absurd (h.symm.trans (less_asym h)) (by decide)
theorem swoC : SWO (ltOf cfC) where
  irrefl x := by rw [ltC]; exact less_irr _
  trans x y z h1 h2 := by
    rw [ltC] at *
    cases h : lessB x.1 z.1 with
    | true => rfl
    | false => rw [less_neg (less_asym h1) h] at h2; cases h2
  ntrans x y z h1 h2 := by rw [ltC] at *; exact less_neg h1 h2
theorem totC (x y : Cel) (h1 : ltOf cfC x y = false) (h2 : ltOf cfC y x = false) : x = y := by
  rw [ltC] at h1 h2
  exact Subtype.ext (less_tot h1 h2)
def enc1 (x : Cel) : List Value := [encC x]
theorem holds1 {w : World} {blk : Nat} {d : Array Cel} (h : HoldsK enc1 1 w blk 0 d) : Holds encC w blk 0 d := fun j hj => by
  have h1 := h j (by simpa [flatK] using hj)
  rw [get_flatK _ _ _ _ (by omega)] at h1
  simp only [Nat.div_one, Nat.mod_one] at h1
  exact h1
theorem put1 (w : World) (blk : Nat) (d : Array Cel) : putRow encC w blk 0 d = putRowK enc1 1 w blk 0 d := by
  unfold putRowK putRow
  congr 1
  funext c
  unfold putCells
  congr 1
  funext k x
  rw [size_flatK]
  by_cases hk : 0 ≤ k ∧ k < 0 + d.size
  · rw [if_pos hk, if_pos (by omega), get_flatK _ _ _ _ (by omega)]
    simp only [Nat.sub_zero, Nat.div_one, Nat.mod_one]
    rfl
  · rw [if_neg hk, if_neg (by omega)]
theorem world1 (w : World) (blk n : Nat) (d : Array Cel) (os : Array Obj) : sortWorld encC w blk 0 n d os = sortWorldK enc1 1 w blk 0 n d os := by
  unfold sortWorld sortWorldK
  rw [put1]
theorem cmp_lays (blk size : Nat) (w : World) (hg : ∀ W, BelowD blk w W → Gok W) (hb : blk < w.heap.size) : CmpLays1 Tryz.prog 59 #[] encC cfC blk 0 size w := by
  intro m os dk hs x y
  have hW : Gok (sortWorld encC w blk 0 m dk os) := by
    refine hg _ ⟨rfl, rfl, rfl, ?_, fun k hk => ?_, fun _ => Nat.le_add_right _ _⟩
    · show w.heap.size ≤ ((w.heap.modify blk _) ++ os).size
      simp
    · show ((w.heap.modify blk _) ++ os)[k]? = _
      rw [Array.getElem?_append_left (by simp; omega), Array.getElem?_modify, if_neg (by omega)]
  have h := cmp59_D x.1 y.1 (Nat.le_trans x.2 (by decide)) (Nat.le_trans y.2 (by decide)) (sortWorld encC w blk 0 m dk os) (fun _ => True) [encC x, encC y] hW (fun _ _ => trivial) ?_
  · refine (Calls.drew h).mono fun e w' ⟨⟨v, r, s', β', he, hr, hS, hv⟩, hd⟩ => ?_
    subst hr
    have hv := rv_v hv
    subst hv
    subst he
    exact ⟨rfl, Mono.below_grown hS.below.kit (hd (fun c => by cases c))⟩
  · refine ⟨rfl, fun i d v h1 h2 => ?_⟩
    match i with
    | 0 => simp at h1 h2; subst h1 h2; exact .data (.v _ rfl)
    | 1 => simp at h1 h2; subst h1 h2; exact .data (.v _ rfl)
    | i + 2 => simp at h1
end Go.Proofs.YtlchjjchgebfiaaGreatDoor
namespace Go.Proofs.YtlchjjchgebfiaaGreatDoor
open Go.RowKit Go.Dl Go.Shelf Go.Sort
def sortB (l : List ByteArray) : List ByteArray := l.mergeSort fun x y => !lessB y x
theorem sortB_len (l : List ByteArray) : (sortB l).length = l.length := List.length_mergeSort l
theorem cels : ∀ (l : List ByteArray), (∀ s ∈ l, s.size ≤ 1024) → ∃ ls : List Cel, ls.map (·.1) = l
  | [], _ => ⟨[], rfl⟩
  | a :: l, h => by
    obtain ⟨ls, e⟩ := cels l fun s hs => h s (List.mem_cons_of_mem _ hs)
    exact ⟨⟨a, h a List.mem_cons_self⟩ :: ls, by rw [List.map_cons, e]⟩
theorem row1 (l : List Cel) : Go.Dl.rowD enc1 l = (l.map (·.1)).map strV := by
  induction l with
  | nil => rfl
  | cons x l ih => simp only [Go.Dl.rowD, List.map_cons, List.flatten_cons] at *; rw [ih]; rfl
theorem sort_val (l : List Cel) : (l.mergeSort fun x y => !(ltOf cfC) y x).map (·.1) = sortB (l.map (·.1)) := by
  unfold sortB
  exact List.map_mergeSort fun a _ b _ => by rw [ltC]
theorem of_upd {o o' : DObj} : (⟨upd (Sto.of [(0, o)] 1).ob 0 (some o'), (Sto.of [(0, o)] 1).nx⟩ : Sto) = .of [(0, o')] 1 := by
  show Sto.mk _ 1 = Sto.mk _ 1
  congr 1
  funext i
  by_cases h : i = 0
  · subst h; rfl
  · rw [upd_ne _ _ _ h]
    show List.lookup i [(0, o)] = List.lookup i [(0, o')]
    simp [List.lookup, beq_eq_false_iff_ne.2 h]
theorem sort58_S (l : List ByteArray) (hl : ∀ s ∈ l, s.size ≤ 1024) (hn : l.length ≤ 4096) :
    SCall Tryz.prog 58 [.arr 0 l.length, .clo (.func 59) [] []] (.of [(0, ⟨9, 1, l.map strV⟩)] 1) fun r' s' => r' = .tup [] ∧ s' = .of [(0, ⟨9, 1, (sortB l).map strV⟩)] 1 := by
  by_cases hne : l = []
  · subst hne
    rw [show sortB [] = [] from List.eq_nil_of_length_eq_zero (sortB_len [])]
    intro w0 F0 β w vals hs hx
    obtain ⟨hl2, hx⟩ := hx
    match vals, hl2 with
    | [x, y], _ =>
    have hx0 := hx 0 _ _ rfl rfl
    have key : ∀ p cap, Calls Tryz.prog 58 #[.slice p 0 cap, y] w fun e w' => e = .returned (.tuple #[]) ∧ w' = w := fun p cap => AnyF.slices_SortFunc_none { Tryz.sortStrs with } p cap y w
    have fin : ∀ p cap, Calls Tryz.prog 58 #[.slice p 0 cap, y] w fun e w' => ∃ v r s' β', e = .returned v ∧ (r = DV.tup [] ∧ s' = Sto.of [(0, ⟨9, 1, ([] : List ByteArray).map strV⟩)] 1) ∧ SRel w0 F0 s' β' w' ∧ Ext 1 w0 nX (Sto.of [(0, ⟨9, 1, ([] : List ByteArray).map strV⟩)] 1) β w s' β' w' ∧ 1 ≤ s'.nx ∧ RV w' (Fr w0 F0 s' β') β' r v := fun p cap =>
      (key p cap).mono fun e w' ⟨he, hw⟩ => by
        subst hw
        exact ⟨_, _, _, β, he, ⟨rfl, rfl⟩, hs, Ext.refl, Nat.le_refl _, .tup [] [] rfl (fun i d x h => by simp at h)⟩
    rcases rv_arr hx0 with ⟨b, c, hb, hle, rfl⟩ | ⟨hb, hz, rfl⟩
    · exact fin _ _
    · exact fin _ _
  · obtain ⟨ls, rfl⟩ := cels l hl
    have hne2 : ls ≠ [] := fun e => hne (by rw [e]; rfl)
    refine SCall.sortedG (enc := enc1) (k := 1) (l := ls) (l' := ls.mergeSort fun x y => !(ltOf cfC) y x) (fun _ => rfl) (by decide) (fun x v hv => ?_) (o := ⟨9, 1, (ls.map (·.1)).map strV⟩) rfl rfl (row1 ls).symm (List.length_map _) hne2 (List.length_mergeSort ls) (fun blk cap w hH hblk hg => ?_) ?_
    · simp [enc1] at hv; subst hv; rfl
    · have eg : ∀ args w, (callFunc 59 args).run Tryz.prog w = .ok (.enter 59 args) w := enters_of Tryz.func59 (by kernel_rfl) rfl
      have hcon := Any.slices_SortFunc_total Tryz.sortStrs encC (fun _ => rfl) cfC swoC 59 #[] blk 0 cap ls.toArray w eg (cmp_lays blk _ w hg hblk) (holds1 hH) hblk (by simp at hn ⊢; omega) totC
      rw [List.length_map]
      refine hcon.mono fun e w' ⟨he, n, os, hw⟩ => ⟨he, n, os, ?_⟩
      rw [hw, ← world1]
    · exact ⟨rfl, by rw [row1, sort_val]; exact of_upd⟩
end Go.Proofs.YtlchjjchgebfiaaGreatDoor
namespace Go.Proofs.YtlchjjchgebfiaaGreatDoor
open Go.RowKit Go.Dl
abbrev AL : Type := List (ByteArray × Int)
def encA (l : AL) : List (Value × Value) := l.map fun e => (.string e.1, .int .i64 e.2)
def getS (s : ByteArray) : AL → Int
  | [] => 0
  | (a, c) :: l => bif s == a then c else getS s l
def putS (s : ByteArray) (v : Int) : AL → AL
  | [] => [(s, v)]
  | (a, c) :: l => bif s == a then (s, v) :: l else (a, c) :: putS s v l
def posS (s : ByteArray) : AL → Nat → Option (Nat × Value)
  | [], _ => none
  | (a, c) :: l, i => bif s == a then some (i, .int .i64 c) else posS s l (i + 1)
theorem find_is (s : ByteArray) : ∀ (es : List MapEntry) (l : AL) (i : Nat), es.map ent = encA l → Instr.findNow .string (.string s) es i = some (posS s l i)
  | [], l, i, h => by
    cases l with
    | nil => rfl
    | cons a l => cases h
  | e :: es, l, i, h => by
    cases l with
    | nil => cases h
    | cons a l =>
      have h1 : ent e = (.string a.1, .int .i64 a.2) := List.head_eq_of_cons_eq h
      have h2 : es.map ent = encA l := List.tail_eq_of_cons_eq h
      obtain ⟨a, c⟩ := a
      obtain ⟨key, val, born⟩ := e
      have hk : key = .string a := congrArg Prod.fst h1
      have hv : val = .int .i64 c := congrArg Prod.snd h1
      subst hk hv
      rw [Instr.findNow, posS]
      show (match (some (s == a) : Option Bool) with | some true => some (some (i, Value.int .i64 c)) | some false => Instr.findNow .string (.string s) es (i + 1) | none => none) = _
      cases s == a with
      | true => rfl
      | false => exact find_is s es l (i + 1) h2
theorem pos_is (s : ByteArray) (v : Int) : ∀ (l : AL) (i : Nat), (posS s l i = none ∧ getS s l = 0 ∧ putS s v l = l ++ [(s, v)]) ∨ ∃ j c, posS s l i = some (i + j, .int .i64 c) ∧ getS s l = c ∧ l[j]? = some (s, c) ∧ putS s v l = l.set j (s, v)
  | [], i => .inl ⟨rfl, rfl, rfl⟩
  | (a, c) :: l, i => by
    rw [posS, getS, putS]
    cases h : s == a with
    | true => exact .inr ⟨0, c, rfl, rfl, by rw [ba_eq.1 h]; rfl, rfl⟩
    | false =>
      rcases pos_is s v l (i + 1) with ⟨h1, h2, h3⟩ | ⟨j, c', h1, h2, h3, h4⟩
      · exact .inl ⟨h1, h2, congrArg ((a, c) :: ·) h3⟩
      · exact .inr ⟨j + 1, c', h1.trans (by rw [Nat.add_assoc, Nat.add_comm 1 j]), h2, h3, congrArg ((a, c) :: ·) h4⟩
theorem encA_ok (l : AL) : ∀ e ∈ encA l, plOk e.1 = true ∧ plOk e.2 = true := fun e he => by
  obtain ⟨a, _, rfl⟩ := List.mem_map.1 he
  exact ⟨rfl, rfl⟩
theorem under100 : Tryz.prog.underlying 100 = some (.map 9 3) := by kernel_rfl
theorem under9' : Tryz.prog.underlying 9 = some .string := by kernel_rfl
theorem zero3 (w : World) : (zeroValue 3).run Tryz.prog w = .ok (.int .i64 0) w := by kernel_rfl
theorem look_run {es : Array MapEntry} {clk b : Nat} {w : World} {l : AL} (s : ByteArray) (he : es.toList.map ent = encA l) (hb : w.heap[b]? = some (.map es clk)) : (Instr.lookup 100 (.map (some b)) (.string s) false).run Tryz.prog w = .ok (.int .i64 (getS s l)) w := by
  have h1 := find_is s es.toList l 0 he
  have hk : MapKept.IsKey .string (.string s) := trivial
  rcases pos_is s 0 l 0 with ⟨h2, h3, _⟩ | ⟨j, c, h2, h3, _, _⟩
  · rw [h2] at h1
    simp only [Instr.lookup, Sem.run_bind, run_underlying under100, Result.andThen_ok, MapKept.run_getObj_map hb, MapKept.run_checkKey under9' hk, MapKept.run_findKey under9' h1, Sem.run_pure, zero3, h3]
    rfl
  · rw [h2] at h1
    simp only [Instr.lookup, Sem.run_bind, run_underlying under100, Result.andThen_ok, MapKept.run_getObj_map hb, MapKept.run_checkKey under9' hk, MapKept.run_findKey under9' h1, Sem.run_pure, h3]
    rfl
theorem upd_run {es : Array MapEntry} {clk b : Nat} {w : World} {l : AL} (s : ByteArray) (v : Int) (he : es.toList.map ent = encA l) (hb : w.heap[b]? = some (.map es clk)) : ∃ es' clk', es'.toList.map ent = encA (putS s v l) ∧ (Instr.mapUpdate 100 (.map (some b)) (.string s) (.int .i64 v)).run Tryz.prog w = .ok () (w.putObj b (.map es' clk')) := by
  have h1 := find_is s es.toList l 0 he
  have hk : MapKept.IsKey .string (.string s) := trivial
  rcases pos_is s v l 0 with ⟨h2, _, h3⟩ | ⟨j, c, h2, _, h4, h3⟩
  · rw [h2] at h1
    refine ⟨es.push ⟨.string s, .int .i64 v, clk⟩, clk + 1, ?_, ?_⟩
    · rw [Array.toList_push, List.map_append, he, h3, encA, encA, List.map_append]; rfl
    · simp only [Instr.mapUpdate, Sem.run_bind, run_underlying under100, Result.andThen_ok, MapKept.run_getObj_map hb, MapKept.run_checkKey under9' hk, MapKept.run_findKey under9' h1, MapKept.run_setObj_map _ hb]
      rfl
  · rw [h2, Nat.zero_add] at h1
    have hlen : es.toList.length = l.length := by
      have := congrArg List.length he
      rw [List.length_map, encA, List.length_map] at this; exact this
    have hj : j < es.size := by
      have := (List.getElem?_eq_some_iff.1 h4).1
      rw [← Array.length_toList]; omega
    have hkey : ∃ e, es[j]? = some e ∧ e.key = .string s := by
      refine ⟨es[j], Array.getElem?_eq_getElem hj, ?_⟩
      have h5 : (es.toList.map ent)[j]? = (encA l)[j]? := by rw [he]
      rw [List.getElem?_map, encA, List.getElem?_map, h4, Array.getElem?_toList, Array.getElem?_eq_getElem hj] at h5
      exact congrArg Prod.fst (Option.some.inj h5)
    obtain ⟨e, he1, he2⟩ := hkey
    refine ⟨es.modify j fun e => { e with key := .string s, val := .int .i64 v }, clk, ?_, ?_⟩
    · rw [h3]
      refine List.ext_getElem? fun k => ?_
      have h5 : (es.toList.map ent)[k]? = (encA l)[k]? := by rw [he]
      rw [List.getElem?_map, encA, List.getElem?_map] at h5 ⊢
      rw [Array.getElem?_toList, Array.getElem?_modify]
      rw [Array.getElem?_toList] at h5
      by_cases e0 : j = k
      · subst e0
        rw [if_pos rfl, he1, List.getElem?_set_self (by rw [← hlen, Array.length_toList]; exact hj)]; rfl
      · rw [if_neg e0, List.getElem?_set_ne e0]; exact h5
    · simp only [Instr.mapUpdate, Sem.run_bind, run_underlying under100, Result.andThen_ok, MapKept.run_getObj_map hb, MapKept.run_checkKey under9' hk, MapKept.run_findKey under9' h1, he1, Option.map_some, Option.getD_some, he2, MapKept.run_keyThatStays hk, MapKept.run_setObj_map _ hb]
      rfl
end Go.Proofs.YtlchjjchgebfiaaGreatDoor
