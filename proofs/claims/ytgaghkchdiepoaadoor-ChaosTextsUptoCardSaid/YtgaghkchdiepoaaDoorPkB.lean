/- A plan laid, by the program. -/
import Derived.Test.YtgaghkchdiepoaaDoorPkA
import Derived.Test.YtgaghkchdiepoaaDoorPkH

namespace Go.Proofs.YtgaghkchdiepoaaDoor
open Go.RowKit Go.Dl
attribute [local irreducible] Tri SCall TSem ECall Drawn DFun QSem PSem PCall GCall MCall Round Weak dloadE OW DWl Tells IntKind.wrap Retold ESem
theorem harms32_S (x e i n : Int) (out : List Stp) (m : Mx) (hm : EntP n m) (hi : i ≤ e) (h0 : out.length ≤ 999999) : SCall Tryd.prog 32 [.ref 1 0, .agg (mxD m), int1 i] (LS 2 x e out) fun r s => r = .tup [] ∧ s = LS 3 (harmT i e m x).2 e (out ++ (harmT i e m x).1) := by
  obtain ⟨h1, h2, h3, h4, h5⟩ := hm
  obtain ⟨kd, fr, til, rate, a, b⟩ := m
  simp only at h1 h2 h3 h4 h5
  have : (kd = 1 ∨ kd = 2 ∨ kd = 3 ∨ kd = 4 ∨ kd = 5) ∧ 0 ≤ rate ∧ rate ≤ 1000 := by omega
  obtain ⟨hk, hr⟩ := this
  rcases hk with rfl | rfl | rfl | rfl | rfl
  · exact harms32_1 x e i out fr til rate a b h3 hi hr h0
  · exact harms32_2 x e i out fr til rate a b h3 hi hr h0
  · exact harms32_3 x e i out fr til rate a b h3 hi hr h0
  · exact harms32_4 x e i out fr til rate a b h3 hi hr h0
  · exact harms32_5 x e i out fr til rate a b h3 hi hr h0
theorem heal_len (i n : Int) (m : Mx) : (healT i n m).length ≤ 1 := by
  unfold healT
  split
  · exact Nat.zero_le _
  · split
    · exact Nat.le_refl _
    · split
      · exact Nat.le_refl _
      · exact Nat.zero_le _
theorem harm_len (i n : Int) (m : Mx) (x : Int) : (harmT i n m x).1.length ≤ 1 := by
  unfold harmT
  split
  · exact Nat.zero_le _
  · split
    · simp only; split <;> simp
    · split
      · simp only; split <;> simp
      · split
        · exact Nat.zero_le _
        · split
          · exact Nat.zero_le _
          · exact Nat.le_refl _
theorem heals_len (i n : Int) (l : List Mx) : ∀ out : List Stp, (healsF i n l out).length ≤ out.length + l.length := by
  induction l with
  | nil => intro out; exact Nat.le_refl _
  | cons m l ih =>
    intro out
    have h1 := ih (out ++ healT i n m)
    have h2 := heal_len i n m
    rw [List.length_append] at h1
    show (healsF i n l (out ++ healT i n m)).length ≤ out.length + (l.length + 1)
    omega
theorem harms_len (i n : Int) (l : List Mx) : ∀ s : List Stp × Int, (harmsF i n l s).1.length ≤ s.1.length + l.length := by
  induction l with
  | nil => intro s; exact Nat.le_refl _
  | cons m l ih =>
    intro s
    have h1 := ih (s.1 ++ (harmT i n m s.2).1, (harmT i n m s.2).2)
    have h2 := harm_len i n m s.2
    simp only [List.length_append] at h1
    show (harmsF i n l (s.1 ++ (harmT i n m s.2).1, (harmT i n m s.2).2)).1.length ≤ s.1.length + (l.length + 1)
    omega
theorem heals_succ {i n : Int} {l : List Mx} {k : Nat} (hk : k < l.length) (out : List Stp) : healsF i n (l.take (k + 1)) out = healsF i n (l.take k) out ++ healT i n (l.getD k mx0) := by
  rw [take_succ (d := mx0) hk, healsF, List.foldl_append]; rfl
theorem harms_succ {i n : Int} {l : List Mx} {k : Nat} (hk : k < l.length) (s : List Stp × Int) : harmsF i n (l.take (k + 1)) s = ((harmsF i n (l.take k) s).1 ++ (harmT i n (l.getD k mx0) (harmsF i n (l.take k) s).2).1, (harmT i n (l.getD k mx0) (harmsF i n (l.take k) s).2).2) := by
  rw [take_succ (d := mx0) hk, harmsF, List.foldl_append]; rfl
theorem lay_len (l : List Mx) (steps : List Stp) (x : Int) : ∀ i : Nat, (layK l steps x i).1.length ≤ i * (2 * l.length + 1) := by
  intro i
  induction i with
  | zero => exact Nat.zero_le _
  | succ i ih =>
    have h1 := heals_len i steps.length l (layK l steps x i).1
    have h2 := harms_len i steps.length l (healsF i steps.length l (layK l steps x i).1, (layK l steps x i).2)
    have h3 : (putS steps i (harmsF i steps.length l (healsF i steps.length l (layK l steps x i).1, (layK l steps x i).2)).1).length ≤ (harmsF i steps.length l (healsF i steps.length l (layK l steps x i).1, (layK l steps x i).2)).1.length + 1 := by
      unfold putS; split
      · rw [List.length_append]; exact Nat.le_refl _
      · omega
    simp only at h2
    show (putS steps i _).length ≤ (i + 1) * (2 * l.length + 1)
    rw [Nat.add_mul]
    omega
theorem lay_small {l : List Mx} {steps : List Stp} {x : Int} {i : Nat} (hl : l.length ≤ 32) (hs : steps.length ≤ 4096) (hi : i ≤ steps.length + 1) : (layK l steps x i).1.length ≤ 300000 := by
  have h1 := lay_len l steps x i
  have h2 : i * (2 * l.length + 1) ≤ 4097 * 65 := Nat.mul_le_mul (by omega) (by omega)
  omega
end Go.Proofs.YtgaghkchdiepoaaDoor

/- A plan laid, by the program: the walk. -/
namespace Go.Proofs.YtgaghkchdiepoaaDoor
open Go.RowKit Go.Dl
attribute [local irreducible] Tri SCall TSem ECall Drawn DFun QSem PSem PCall GCall MCall Round Weak dloadE OW DWl Tells Retold ESem
def clo31 : DV := .clo (.func 31) [.ref 1 0] []
def clo32 : DV := .clo (.func 32) [.ref 1 0] []
def lay14 (l : List Mx) (steps : List Stp) (i : Nat × List Stp × Int) : St := ⟨0, tmOf [(1, stps steps), (2, mxs l), (9, .ref 1 0), (31, int1 (steps.length + 1 : Nat)), (32, int1 i.1)], .of [(0, ⟨30, 1, [u64 i.2.2]⟩), (1, ⟨62, 3, [.clo (.func 29) [] [.ref 0 0], int1 steps.length, .arr 2 i.2.1.length]⟩), (2, ⟨34, 6, rowS i.2.1⟩)] 3⟩
def in14 (l : List Mx) (steps : List Stp) (c : DV) (j : Int) (i : Nat) (k : Nat × List Stp × Int) : St := ⟨0, tmOf [(1, stps steps), (2, mxs l), (9, .ref 1 0), (10, int1 i), (12, c), (31, int1 (steps.length + 1 : Nat)), (32, int1 i), (39, .arr 3 2), (40, int1 2), (41, int1 j), (45, mxs l), (46, int1 l.length), (47, int1 k.1)], .of [(0, ⟨30, 1, [u64 k.2.2]⟩), (1, ⟨62, 3, [.clo (.func 29) [] [.ref 0 0], int1 steps.length, .arr 2 k.2.1.length]⟩), (2, ⟨34, 6, rowS k.2.1⟩), (3, ⟨63, 1, [clo31, clo32]⟩)] 4⟩
theorem take_id {steps : List Stp} (hs : steps.length ≤ 4096) : List.drop (Int.toNat 0) (List.take (if (4096 : Int) < (((steps.map stpD).length : Nat) : Int) then 4096 else (((steps.map stpD).length : Nat) : Int)).toNat (steps.map stpD)) = steps.map stpD := by
  rw [List.length_map, if_neg (by omega), Int.toNat_natCast, List.take_of_length_le (by rw [List.length_map]; exact Nat.le_refl _)]; rfl
theorem len_id {steps : List Stp} (hs : steps.length ≤ 4096) : (List.drop (Int.toNat 0) (List.take (if (4096 : Int) < (((steps.map stpD).length : Nat) : Int) then 4096 else (((steps.map stpD).length : Nat) : Int)).toNat (steps.map stpD))).length = steps.length := by rw [take_id hs, List.length_map]
theorem len_wrap {steps : List Stp} (hs : steps.length ≤ 4096) : IntKind.i64.wrap (((List.drop (Int.toNat 0) (List.take (if (4096 : Int) < (((steps.map stpD).length : Nat) : Int) then 4096 else (((steps.map stpD).length : Nat) : Int)).toNat (steps.map stpD))).length : Int) + 1) = ((steps.length + 1 : Nat) : Int) := by
  rw [len_id hs]; exact wsucc (n := 5000) (by omega) (by omega)
theorem rowS_nil : rowS [] = [] := rfl
theorem lt_map {l : List Mx} {k : Nat} (h : k < l.length) : ((k : Nat) : Int) < (((l.map mxD).length : Nat) : Int) := by rw [List.length_map]; omega
theorem getK {l : List Mx} {steps : List Stp} {i k : Nat} {o : List Stp} {s : List Stp × Int} {x : Int} (hk : k < l.length) (e : s = (healsF i steps.length (l.take k) o, x)) : (s.1 ++ healT i steps.length (l.getD (((k : Nat) : Int)).toNat mx0), s.2) = (healsF i steps.length (l.take (k + 1)) o, x) := by
  rw [heals_succ hk, Int.toNat_natCast, e]
theorem getK2 {l : List Mx} {steps : List Stp} {i k : Nat} {K s : List Stp × Int} (hk : k < l.length) (e : s = harmsF i steps.length (l.take k) K) : (s.1 ++ (harmT i steps.length (l.getD (((k : Nat) : Int)).toNat mx0) s.2).1, (harmT i steps.length (l.getD (((k : Nat) : Int)).toNat mx0) s.2).2) = harmsF i steps.length (l.take (k + 1)) K := by
  rw [harms_succ hk, Int.toNat_natCast, e]
theorem lt_mapS {l : List Stp} {k : Nat} (h : decide (((k : Nat) : Int) < (((l.map stpD).length : Nat) : Int)) = true) : k < l.length := by simpa using h
theorem ge_mapS {l : List Stp} {k : Nat} (h : decide (((k : Nat) : Int) < (((l.map stpD).length : Nat) : Int)) = false) : l.length ≤ k := by simpa using h
theorem lay_round {l : List Mx} {steps : List Stp} {x : Int} {i : Nat} {s K s2 : List Stp × Int} (h0 : s = layK l steps x i) (h1 : K = (healsF i steps.length l s.1, s.2)) (h2 : s2 = harmsF i steps.length l K) : layK l steps x (i + 1) = (putS steps i s2.1, s2.2) := by
  rw [layK, ← h0, roundL, h2, h1]
theorem put_yes {steps : List Stp} {i : Nat} {o : List Stp} (h : i < steps.length) : o ++ [steps.getD (((i : Nat) : Int)).toNat stp0] = putS steps i o := by rw [putS, if_pos h, Int.toNat_natCast]
theorem put_no {steps : List Stp} {i : Nat} {o : List Stp} (h : steps.length ≤ i) : o = putS steps i o := by rw [putS, if_neg (by omega)]
def LayQ (L : List Stp) (r : DV) (s : Sto) : Prop := ∃ x e, r = .arr 2 L.length ∧ s = .of [(0, ⟨30, 1, [u64 x]⟩), (1, ⟨62, 3, [.clo (.func 29) [] [.ref 0 0], int1 e, .arr 2 L.length]⟩), (2, ⟨34, 6, rowS L⟩)] 3
theorem LayQ.mark {L : List Stp} {r : DV} {s : Sto} (h : LayQ L r s) : LayQ L r s := h
theorem LayQ.of {L L' : List Stp} {x e : Int} (h : L' = L) : LayQ L (.arr 2 L'.length) (.of [(0, ⟨30, 1, [u64 x]⟩), (1, ⟨62, 3, [.clo (.func 29) [] [.ref 0 0], int1 e, .arr 2 L'.length]⟩), (2, ⟨34, 6, rowS L'⟩)] 3) := by subst h; exact ⟨x, e, rfl, rfl⟩
attribute [local irreducible] LayQ
attribute [local irreducible] healT harmT stepU valU rowS
set_option maxRecDepth 20000 in
set_option maxHeartbeats 1000000 in
theorem lay14_Q (n : Int) (l : List Mx) (steps : List Stp) (x : Int) (hf : FitP n l) (hs : steps.length ≤ 4096) : DFun Tryd.prog 14 [int1 n, stps steps, mxs l, u64 x] (LayQ (layT l steps x)) := by
  have h8 := fit8_D n l
  rw [show fitB n l = true from decide_eq_true hf] at h8
  have hl : l.length ≤ 32 := hf.2.2.1
  have hE : ∀ k, k < l.length → EntP n (l.getD k mx0) := hf.2.2.2
  refine DFun.body Tryd.func14 rfl (by kernel_rfl) ?_
  repeat' (first | with_reducible rfl | ((conv => whnf); first | refine And.intro ?_ ?_ | (intro h; first | with_reducible exact tf_no h | with_reducible exact ft_no h | exact Bool.noConfusion h | with_reducible exact h | (refine not_t h ?_; rfl) | (refine not_f h ?_; rfl) | (have ht : true = true := h; clear ht h) | skip) | ((with_reducible refine DWl.mark ?_); repeat' (first | refine DWl.cons ?_ ?_ | exact DWl.nil | exact DW.same _ rfl | exact DW.ref _ _ _ rfl | exact DW.arr _ _ _ rfl | exact DW.sub _ _ _ _ rfl | exact DW.nilLst _ | refine DW.aggl ?_ | refine DW.tupl ?_ | refine DW.clol ?_ ?_ | refine DW.int ?_ | refine DW.bool ?_ | refine DW.str ?_)) | ((with_reducible refine SCall.mark ?_); first | refine SCall.data (h8) rfl rfl ?_ | refine SCall.scal (h8) rfl rfl ?_) | ((with_reducible refine PCall.mark ?_); first | refine PCall.mk (h8) rfl rfl ?_) | ((with_reducible refine GCall.mark ?_); first | refine GCall.data (fun _ => h8) rfl rfl ?_ | refine GCall.scal (fun _ => h8) rfl rfl ?_) | ((with_reducible refine MCall.mark ?_); first | refine MCall.data (fun _ => h8) rfl rfl ?_ | refine MCall.plain (PCall.mk (h8) rfl rfl ?_)) | ((with_reducible refine Tri.mark ?_); first | (refine Tri.at 32 (int1 0) (by rfl) ?_; refine Tri.loop (lay14 l steps) (fun i => i.1 ≤ steps.length + 1 ∧ i.2 = layK l steps x i.1) (fun i => steps.length + 1 - i.1) (0, [], x) (by kernel_rfl) (Weak.list [(0, some 0), (1, some 1), (2, none)] [] (by kernel_rfl) ?_ ?_) ?_ ?_)) | ((with_reducible refine ECall.mark ?_); first | refine ECall.only ?_ (fun h => nomatch h) | refine ECall.only ?_ ?_) | ((with_reducible refine Drawn.mark ?_); first | refine Drawn.quiet (by kernel_rfl) ?_) | refine dcell_ok rfl ?_ | refine AppC.new ?_))
  all_goals first | (with_reducible refine enters_mark ?_; kernel_rfl) | (with_reducible refine boolT_mark ?_; kernel_rfl) | rfl | trivial | assumption | exact Nat.le_of_ble_eq_true rfl | (show entersB _ _ = true; kernel_rfl) | exact DW.same _ rfl | exact DW.ref _ _ _ rfl | exact DW.arr _ _ _ rfl | refine DW.int ?_ | refine dvb ?_ | refine dvi ?_ | exact OW.cells rfl rfl (DWl.same rfl) | exact Nat.zero_le _ | omega | skip
  all_goals repeat' (first | refine OW.cells rfl rfl ?_ | exact DW.nilArr _ rfl | refine DWl.cons ?_ ?_ | exact DWl.nil | exact DW.same _ rfl | exact DW.ref _ _ _ rfl | exact DW.arr _ _ _ rfl | exact DW.sub _ _ _ _ rfl | exact DW.nilLst _ | refine DW.aggl ?_ | refine DW.tupl ?_ | refine DW.clol ?_ ?_)
  all_goals try ((conv => whnf); with_reducible first | refine Round.mark ?_ | refine Tells.mark ?_ | refine Retold.mark ?_)
  all_goals try first | (show (_ : Bool) = _; simp_all; done) | (show (_ : Int) < _; simp at *; omega) | (show (_ : Int) ≤ _; simp at *; omega) | (show (_ : Nat) < _; simp at *; omega) | (show (_ : Nat) ≤ _; simp at *; omega)
  · exact DW.lstE (take_id hs)
  · exact len_wrap hs
  · first | exact DW.int (congrArg _ (len_id hs)) | exact DW.nilArr _ rfl
  · conv => whnf
    exact rowS_nil
  · rename_i i hi
    have hlt := lt_int h
    have hix : i.2 = layK l steps x i.1 := hi.2
    have hsm := lay_small (x := x) hl hs hi.1
    rw [← hix] at hsm
    have hh : ∀ (k : Nat × List Stp × Int), k.1 < l.length → k.2 = (healsF i.1 steps.length (l.take k.1) i.2.1, i.2.2) → SCall Tryd.prog 31 [.ref 1 0, .agg (mxD (l.getD (((k.1 : Nat) : Int)).toNat mx0)), int1 i.1] (LS 2 k.2.2 steps.length k.2.1) fun r s => r = .tup [] ∧ s = LS 3 k.2.2 steps.length (k.2.1 ++ healT i.1 steps.length (l.getD (((k.1 : Nat) : Int)).toNat mx0)) := fun k hk e => by
      have h2 := heals_len i.1 steps.length (l.take k.1) i.2.1
      have h3 : k.2.1 = healsF i.1 steps.length (l.take k.1) i.2.1 := congrArg Prod.fst e
      rw [← h3, List.length_take] at h2
      exact heals31_S _ _ _ _ _ (hE k.1 hk).2.2.1 (by omega)
    have hh2 : ∀ (K : List Stp × Int) (k2 : Nat × List Stp × Int), K = (healsF i.1 steps.length l i.2.1, i.2.2) → k2.1 < l.length → k2.2 = harmsF i.1 steps.length (l.take k2.1) K → SCall Tryd.prog 32 [.ref 1 0, .agg (mxD (l.getD (((k2.1 : Nat) : Int)).toNat mx0)), int1 i.1] (LS 2 k2.2.2 steps.length k2.2.1) fun r s => r = .tup [] ∧ s = LS 3 (harmT i.1 steps.length (l.getD (((k2.1 : Nat) : Int)).toNat mx0) k2.2.2).2 steps.length (k2.2.1 ++ (harmT i.1 steps.length (l.getD (((k2.1 : Nat) : Int)).toNat mx0) k2.2.2).1) := fun K k2 eK hk e => by
      have h2 := heals_len i.1 steps.length l i.2.1
      have h4 := harms_len i.1 steps.length (l.take k2.1) K
      rw [← e, List.length_take, eK] at h4
      simp only at h4
      exact harms32_S _ _ _ n _ _ (hE k2.1 hk) (by omega) (by omega)
    conv => whnf
    refine Tri.rounds 3 (by kernel_rfl) ?_
    repeat' (first | with_reducible rfl | ((conv => whnf); first | refine And.intro ?_ ?_ | (intro h; first | with_reducible exact tf_no h | with_reducible exact ft_no h | exact Bool.noConfusion h | with_reducible exact h | (have ht : true = true := h; clear ht h) | skip) | ((with_reducible refine DWl.mark ?_); repeat' (first | refine DWl.cons ?_ ?_ | exact DWl.nil | exact DW.same _ rfl | exact DW.ref _ _ _ rfl | exact DW.arr _ _ _ rfl | exact DW.sub _ _ _ _ rfl | exact DW.nilLst _ | refine DW.aggl ?_ | refine DW.tupl ?_ | refine DW.clol ?_ ?_ | refine DW.int ?_ | refine DW.bool ?_ | refine DW.str ?_)) | ((with_reducible refine ECall.mark ?_); first | refine ECall.only ?_ (fun h => nomatch h) | refine ECall.only ?_ ?_) | ((with_reducible refine Drawn.mark ?_); first | refine Drawn.quiet (by kernel_rfl) ?_) | refine dcell_ok rfl ?_ | refine AppC.new ?_))
    all_goals try first | ((with_reducible show Option.isSome (slElem _ _) = true); kernel_rfl) | ((with_reducible show slElem _ _ = some _); kernel_rfl) | ((with_reducible refine enters_mark ?_); kernel_rfl) | (with_reducible assumption) | ((with_reducible show List.all _ DV.one = true); rfl) | ((with_reducible show (_ : Nat) = _); rfl) | ((with_reducible show (_ == true) = true); simpa using h) | ((with_reducible show (_ : Nat) ≤ _); exact Nat.le_of_ble_eq_true rfl) | ((with_reducible show (_ : Int) ≤ _); first | omega | decide) | ((with_reducible show (_ : Int) < _); first | omega | decide) | ((with_reducible show (_ : Nat) < _); omega) | ((with_reducible show (_ : Nat) ≤ _); omega)
    conv => whnf
    refine Tri.loop (in14 l steps clo31 0 i.1) (fun k => k.1 ≤ l.length ∧ k.2 = (healsF i.1 steps.length (l.take k.1) i.2.1, i.2.2)) (fun k => l.length - k.1) (0, i.2) (by kernel_rfl) (Weak.list [(0, some 0), (1, some 1), (2, some 2), (3, some 3)] [] (by kernel_rfl) ?_ ?_) ⟨Nat.zero_le _, rfl⟩ ?_
    · repeat' (first | exact DW.int (congrArg _ (List.length_map _)) | exact OW.cells rfl rfl (DWl.same (rowS_all _)) | exact DW.same _ rfl | exact DW.ref _ _ _ rfl | exact DW.arr _ _ _ rfl | exact OW.cells rfl rfl (DWl.same rfl) | refine OW.cells rfl rfl ?_ | refine DWl.cons ?_ ?_ | exact DWl.nil | exact DW.nilArr _ rfl | exact DW.nilLst _ | refine DW.clol ?_ ?_ | refine DW.aggl ?_ | refine DW.tupl ?_ | refine DW.int ?_ | refine DW.bool ?_ | refine DW.str ?_ | refine DW.arrE rfl ?_ | ((conv => whnf); first | refine And.intro ?_ ?_ | trivial))
    · repeat' (first | exact DW.int (congrArg _ (List.length_map _)) | exact OW.cells rfl rfl (DWl.same (rowS_all _)) | exact DW.same _ rfl | exact DW.ref _ _ _ rfl | exact DW.arr _ _ _ rfl | exact OW.cells rfl rfl (DWl.same rfl) | refine OW.cells rfl rfl ?_ | refine DWl.cons ?_ ?_ | exact DWl.nil | exact DW.nilArr _ rfl | exact DW.nilLst _ | refine DW.clol ?_ ?_ | refine DW.aggl ?_ | refine DW.tupl ?_ | refine DW.int ?_ | refine DW.bool ?_ | refine DW.str ?_ | refine DW.arrE rfl ?_ | ((conv => whnf); first | refine And.intro ?_ ?_ | trivial))
    intro k hk
    repeat' (first | with_reducible rfl | ((conv => whnf); first | refine And.intro ?_ ?_ | (intro h; first | with_reducible exact tf_no h | with_reducible exact ft_no h | exact Bool.noConfusion h | with_reducible exact h | (have ht : true = true := h; clear ht h) | skip) | ((with_reducible refine DWl.mark ?_); repeat' (first | refine DWl.cons ?_ ?_ | exact DWl.nil | exact DW.same _ rfl | exact DW.ref _ _ _ rfl | exact DW.arr _ _ _ rfl | exact DW.sub _ _ _ _ rfl | exact DW.nilLst _ | refine DW.aggl ?_ | refine DW.tupl ?_ | refine DW.clol ?_ ?_ | refine DW.int ?_ | refine DW.bool ?_ | refine DW.str ?_)) | ((with_reducible refine SCall.mark ?_); first | refine SCall.at [0, 1, 2] (fun m => [(0, ⟨30, 1, [u64 (k.2.2)]⟩), (1, ⟨62, 3, [.clo (.func 29) [] [.ref 0 0], int1 steps.length, .arr m (k.2.1 ++ healT i.1 steps.length (l.getD (((k.1 : Nat) : Int)).toNat mx0)).length]⟩), (m, ⟨34, 6, rowS (k.2.1 ++ healT i.1 steps.length (l.getD (((k.1 : Nat) : Int)).toNat mx0))⟩)]) (fun _ => .tup []) 1 (hh k (lt_int ‹decide (((k.1 : Nat) : Int) < ((l.length : Nat) : Int)) = true›) hk.2) (by kernel_rfl) ?_ ?_ ?_ ?_ ?_) | ((with_reducible refine ECall.mark ?_); first | refine ECall.only ?_ (fun h => nomatch h) | refine ECall.only ?_ ?_) | ((with_reducible refine Drawn.mark ?_); first | refine Drawn.quiet (by kernel_rfl) ?_) | refine dloadE_map (mx0) ?_ ?_ | exact OW.cells rfl rfl (DWl.same (rowS_all _)) | exact OW.cells rfl rfl (DWl.cons (DW.int rfl) DWl.nil) | exact OW.cells rfl rfl (DWl.cons (DW.clol DWl.nil (DWl.cons (DW.ref _ _ _ rfl) DWl.nil)) (DWl.cons (DW.same _ rfl) (DWl.cons (DW.arr _ _ _ rfl) DWl.nil))) | exact DW.tupl DWl.nil | exact True.intro | refine dcell_ok rfl ?_ | refine AppC.new ?_))
    all_goals try ((conv => whnf); with_reducible refine Round.mark ?_)
    all_goals try first | exact DWl.same (rowS_all _) | ((with_reducible show Option.isSome (slElem _ _) = true); kernel_rfl) | ((with_reducible show slElem _ _ = some _); kernel_rfl) | ((with_reducible refine enters_mark ?_); kernel_rfl) | (with_reducible assumption) | ((with_reducible show List.all _ DV.one = true); rfl) | ((with_reducible show (_ : Nat) = _); rfl) | ((with_reducible show (_ == true) = true); simpa using h) | ((with_reducible show (_ : Nat) ≤ _); exact Nat.le_of_ble_eq_true rfl) | ((with_reducible show (_ : Int) ≤ _); first | omega | decide) | ((with_reducible show (_ : Int) < _); first | omega | decide) | ((with_reducible show (_ : Nat) < _); omega) | ((with_reducible show (_ : Nat) ≤ _); omega)
    · exact lt_map (lt_int h)
    · exact lt_int h
    · have hlt1 := lt_int h
      refine Round.go (fun _ => (k.1 + 1, k.2.1 ++ healT i.1 steps.length (l.getD (((k.1 : Nat) : Int)).toNat mx0), k.2.2)) ⟨hlt1, getK hlt1 hk.2⟩ (by show l.length - (k.1 + 1) < l.length - k.1; omega) (Weak.list [(0, some 0), (1, some 1), (2, some 5), (3, some 3)] [] (by kernel_rfl) ?_ ?_)
      · repeat' (first | exact wsucc hlt1 (by omega) | exact OW.cells rfl rfl (DWl.same (rowS_all _)) | exact OW.cells rfl rfl (DWl.cons (DW.int rfl) DWl.nil) | exact DW.same _ rfl | exact DW.ref _ _ _ rfl | exact DW.arr _ _ _ rfl | exact OW.cells rfl rfl (DWl.same rfl) | refine OW.cells rfl rfl ?_ | refine DWl.cons ?_ ?_ | exact DWl.nil | exact DW.nilArr _ rfl | exact DW.nilLst _ | refine DW.clol ?_ ?_ | refine DW.aggl ?_ | refine DW.tupl ?_ | refine DW.int ?_ | refine DW.bool ?_ | refine DW.str ?_ | refine DW.arrE rfl ?_ | ((conv => whnf); first | refine And.intro ?_ ?_ | trivial))
      · repeat' (first | exact wsucc hlt1 (by omega) | exact OW.cells rfl rfl (DWl.same (rowS_all _)) | exact OW.cells rfl rfl (DWl.cons (DW.int rfl) DWl.nil) | exact DW.same _ rfl | exact DW.ref _ _ _ rfl | exact DW.arr _ _ _ rfl | exact OW.cells rfl rfl (DWl.same rfl) | refine OW.cells rfl rfl ?_ | refine DWl.cons ?_ ?_ | exact DWl.nil | exact DW.nilArr _ rfl | exact DW.nilLst _ | refine DW.clol ?_ ?_ | refine DW.aggl ?_ | refine DW.tupl ?_ | refine DW.int ?_ | refine DW.bool ?_ | refine DW.str ?_ | refine DW.arrE rfl ?_ | ((conv => whnf); first | refine And.intro ?_ ?_ | trivial))
    have hk1 : k.2 = (healsF i.1 steps.length l i.2.1, i.2.2) := by
      have hge := ge_int ‹decide (((k.1 : Nat) : Int) < ((l.length : Nat) : Int)) = false›
      rw [hk.2, List.take_of_length_le hge]
    have hf1 : (healsF i.1 steps.length l i.2.1, i.2.2).1.length ≤ 300032 := by
      have := heals_len i.1 steps.length l i.2.1
      simp only; omega
    rw [← hk1] at hf1
    conv => whnf
    refine Tri.loop (in14 l steps clo32 1 i.1) (fun k2 => k2.1 ≤ l.length ∧ k2.2 = harmsF i.1 steps.length (l.take k2.1) k.2) (fun k2 => l.length - k2.1) (0, k.2) (by kernel_rfl) (Weak.list [(0, some 0), (1, some 1), (2, some 2), (3, some 3)] [] (by kernel_rfl) ?_ ?_) ⟨Nat.zero_le _, rfl⟩ ?_
    · repeat' (first | exact DW.int (congrArg _ (List.length_map _)) | exact OW.cells rfl rfl (DWl.same (rowS_all _)) | exact OW.cells rfl rfl (DWl.cons (DW.int rfl) DWl.nil) | exact DW.same _ rfl | exact DW.ref _ _ _ rfl | exact DW.arr _ _ _ rfl | exact OW.cells rfl rfl (DWl.same rfl) | refine OW.cells rfl rfl ?_ | refine DWl.cons ?_ ?_ | exact DWl.nil | exact DW.nilArr _ rfl | exact DW.nilLst _ | refine DW.clol ?_ ?_ | refine DW.aggl ?_ | refine DW.tupl ?_ | refine DW.int ?_ | refine DW.bool ?_ | refine DW.str ?_ | refine DW.arrE rfl ?_ | ((conv => whnf); first | refine And.intro ?_ ?_ | trivial))
    · repeat' (first | exact DW.int (congrArg _ (List.length_map _)) | exact OW.cells rfl rfl (DWl.same (rowS_all _)) | exact OW.cells rfl rfl (DWl.cons (DW.int rfl) DWl.nil) | exact DW.same _ rfl | exact DW.ref _ _ _ rfl | exact DW.arr _ _ _ rfl | exact OW.cells rfl rfl (DWl.same rfl) | refine OW.cells rfl rfl ?_ | refine DWl.cons ?_ ?_ | exact DWl.nil | exact DW.nilArr _ rfl | exact DW.nilLst _ | refine DW.clol ?_ ?_ | refine DW.aggl ?_ | refine DW.tupl ?_ | refine DW.int ?_ | refine DW.bool ?_ | refine DW.str ?_ | refine DW.arrE rfl ?_ | ((conv => whnf); first | refine And.intro ?_ ?_ | trivial))
    intro k2 hk2
    have hk2len : k2.2.1.length ≤ 300100 := by
      have h4 := harms_len i.1 steps.length (l.take k2.1) k.2
      rw [← hk2.2, List.length_take] at h4
      omega
    repeat' (first | with_reducible rfl | ((conv => whnf); first | refine And.intro ?_ ?_ | (intro h; first | with_reducible exact tf_no h | with_reducible exact ft_no h | exact Bool.noConfusion h | with_reducible exact h | (have ht : true = true := h; clear ht h) | skip) | ((with_reducible refine DWl.mark ?_); repeat' (first | refine DWl.cons ?_ ?_ | exact DWl.nil | exact DW.same _ rfl | exact DW.ref _ _ _ rfl | exact DW.arr _ _ _ rfl | exact DW.sub _ _ _ _ rfl | exact DW.nilLst _ | refine DW.aggl ?_ | refine DW.tupl ?_ | refine DW.clol ?_ ?_ | refine DW.int ?_ | refine DW.bool ?_ | refine DW.str ?_)) | ((with_reducible refine SCall.mark ?_); first | refine SCall.at [0, 1, 2] (fun m => [(0, ⟨30, 1, [u64 ((harmT i.1 steps.length (l.getD (((k2.1 : Nat) : Int)).toNat mx0) k2.2.2).2)]⟩), (1, ⟨62, 3, [.clo (.func 29) [] [.ref 0 0], int1 steps.length, .arr m (k2.2.1 ++ (harmT i.1 steps.length (l.getD (((k2.1 : Nat) : Int)).toNat mx0) k2.2.2).1).length]⟩), (m, ⟨34, 6, rowS (k2.2.1 ++ (harmT i.1 steps.length (l.getD (((k2.1 : Nat) : Int)).toNat mx0) k2.2.2).1)⟩)]) (fun _ => .tup []) 1 (hh2 k.2 k2 hk1 (lt_int ‹decide (((k2.1 : Nat) : Int) < ((l.length : Nat) : Int)) = true›) hk2.2) (by kernel_rfl) ?_ ?_ ?_ ?_ ?_ | refine SCall.at [0, 1, 2] (fun m => [(0, ⟨30, 1, [u64 (k2.2.2)]⟩), (1, ⟨62, 3, [.clo (.func 29) [] [.ref 0 0], int1 steps.length, .arr m (k2.2.1 ++ [(steps.getD (((i.1 : Nat) : Int)).toNat stp0)]).length]⟩), (m, ⟨34, 6, rowS (k2.2.1 ++ [(steps.getD (((i.1 : Nat) : Int)).toNat stp0)])⟩)]) (fun _ => .tup []) 1 (put33_S k2.2.2 steps.length k2.2.1 (steps.getD (((i.1 : Nat) : Int)).toNat stp0) (by omega)) (by kernel_rfl) ?_ ?_ ?_ ?_ ?_) | ((with_reducible refine ECall.mark ?_); first | refine ECall.only ?_ (fun h => nomatch h) | refine ECall.only ?_ ?_) | ((with_reducible refine Drawn.mark ?_); first | refine Drawn.quiet (by kernel_rfl) ?_) | refine dloadE_map (mx0) ?_ ?_ | refine dloadE_map (stp0) ?_ ?_ | exact OW.cells rfl rfl (DWl.same (rowS_all _)) | exact OW.cells rfl rfl (DWl.cons (DW.int rfl) DWl.nil) | exact OW.cells rfl rfl (DWl.cons (DW.clol DWl.nil (DWl.cons (DW.ref _ _ _ rfl) DWl.nil)) (DWl.cons (DW.same _ rfl) (DWl.cons (DW.arr _ _ _ rfl) DWl.nil))) | exact DW.tupl DWl.nil | exact True.intro | refine dcell_ok rfl ?_ | refine AppC.new ?_))
    all_goals try ((conv => whnf); with_reducible refine Round.mark ?_)
    all_goals try first | exact DWl.same (rowS_all _) | ((with_reducible show Option.isSome (slElem _ _) = true); kernel_rfl) | ((with_reducible show slElem _ _ = some _); kernel_rfl) | ((with_reducible refine enters_mark ?_); kernel_rfl) | (with_reducible assumption) | ((with_reducible show List.all _ DV.one = true); rfl) | ((with_reducible show (_ : Nat) = _); rfl) | ((with_reducible show (_ == true) = true); simpa using h) | ((with_reducible show (_ : Nat) ≤ _); exact Nat.le_of_ble_eq_true rfl) | ((with_reducible show (_ : Int) ≤ _); first | omega | decide) | ((with_reducible show (_ : Int) < _); first | omega | decide) | ((with_reducible show (_ : Nat) < _); omega) | ((with_reducible show (_ : Nat) ≤ _); omega)
    · exact lt_map (lt_int h)
    · exact lt_int h
    · have hlt2 := lt_int h
      refine Round.go (fun _ => (k2.1 + 1, k2.2.1 ++ (harmT i.1 steps.length (l.getD (((k2.1 : Nat) : Int)).toNat mx0) k2.2.2).1, (harmT i.1 steps.length (l.getD (((k2.1 : Nat) : Int)).toNat mx0) k2.2.2).2)) ⟨hlt2, getK2 hlt2 hk2.2⟩ (by show l.length - (k2.1 + 1) < l.length - k2.1; omega) (Weak.list [(0, some 0), (1, some 1), (2, some 5), (3, some 3)] [] (by kernel_rfl) ?_ ?_)
      · repeat' (first | exact wsucc hlt2 (by omega) | exact OW.cells rfl rfl (DWl.same (rowS_all _)) | exact OW.cells rfl rfl (DWl.cons (DW.int rfl) DWl.nil) | exact DW.same _ rfl | exact DW.ref _ _ _ rfl | exact DW.arr _ _ _ rfl | exact OW.cells rfl rfl (DWl.same rfl) | refine OW.cells rfl rfl ?_ | refine DWl.cons ?_ ?_ | exact DWl.nil | exact DW.nilArr _ rfl | exact DW.nilLst _ | refine DW.clol ?_ ?_ | refine DW.aggl ?_ | refine DW.tupl ?_ | refine DW.int ?_ | refine DW.bool ?_ | refine DW.str ?_ | refine DW.arrE rfl ?_ | ((conv => whnf); first | refine And.intro ?_ ?_ | trivial))
      · repeat' (first | exact wsucc hlt2 (by omega) | exact OW.cells rfl rfl (DWl.same (rowS_all _)) | exact OW.cells rfl rfl (DWl.cons (DW.int rfl) DWl.nil) | exact DW.same _ rfl | exact DW.ref _ _ _ rfl | exact DW.arr _ _ _ rfl | exact OW.cells rfl rfl (DWl.same rfl) | refine OW.cells rfl rfl ?_ | refine DWl.cons ?_ ?_ | exact DWl.nil | exact DW.nilArr _ rfl | exact DW.nilLst _ | refine DW.clol ?_ ?_ | refine DW.aggl ?_ | refine DW.tupl ?_ | refine DW.int ?_ | refine DW.bool ?_ | refine DW.str ?_ | refine DW.arrE rfl ?_ | ((conv => whnf); first | refine And.intro ?_ ?_ | trivial))
    · have := lt_mapS h
      rw [List.length_map]; omega
    · exact lt_mapS h
    · have hlt3 := lt_mapS h
      have hk3 : k2.2 = harmsF i.1 steps.length l k.2 := by
        have hge := ge_int ‹decide (((k2.1 : Nat) : Int) < ((l.length : Nat) : Int)) = false›
        rw [hk2.2, List.take_of_length_le hge]
      have hlay := lay_round hix hk1 hk3
      refine Round.go (fun _ => (i.1 + 1, k2.2.1 ++ [(steps.getD (((i.1 : Nat) : Int)).toNat stp0)], k2.2.2)) ⟨by show i.1 + 1 ≤ steps.length + 1; omega, by show (_, _) = layK l steps x (i.1 + 1); rw [hlay, put_yes hlt3]⟩ (by show steps.length + 1 - (i.1 + 1) < steps.length + 1 - i.1; omega) (Weak.list [(0, some 0), (1, some 1), (2, some 4)] [] (by kernel_rfl) ?_ ?_)
      · repeat' (first | exact wsucc hlt (by omega) | exact OW.cells rfl rfl (DWl.same (rowS_all _)) | exact OW.cells rfl rfl (DWl.cons (DW.int rfl) DWl.nil) | exact DW.same _ rfl | exact DW.ref _ _ _ rfl | exact DW.arr _ _ _ rfl | exact OW.cells rfl rfl (DWl.same rfl) | refine OW.cells rfl rfl ?_ | refine DWl.cons ?_ ?_ | exact DWl.nil | exact DW.nilArr _ rfl | exact DW.nilLst _ | refine DW.clol ?_ ?_ | refine DW.aggl ?_ | refine DW.tupl ?_ | refine DW.int ?_ | refine DW.bool ?_ | refine DW.str ?_ | refine DW.arrE rfl ?_ | ((conv => whnf); first | refine And.intro ?_ ?_ | trivial))
      · repeat' (first | exact wsucc hlt (by omega) | exact OW.cells rfl rfl (DWl.same (rowS_all _)) | exact OW.cells rfl rfl (DWl.cons (DW.int rfl) DWl.nil) | exact DW.same _ rfl | exact DW.ref _ _ _ rfl | exact DW.arr _ _ _ rfl | exact OW.cells rfl rfl (DWl.same rfl) | refine OW.cells rfl rfl ?_ | refine DWl.cons ?_ ?_ | exact DWl.nil | exact DW.nilArr _ rfl | exact DW.nilLst _ | refine DW.clol ?_ ?_ | refine DW.aggl ?_ | refine DW.tupl ?_ | refine DW.int ?_ | refine DW.bool ?_ | refine DW.str ?_ | refine DW.arrE rfl ?_ | ((conv => whnf); first | refine And.intro ?_ ?_ | trivial))
    · have hge3 := ge_mapS h
      have hk3 : k2.2 = harmsF i.1 steps.length l k.2 := by
        have hge := ge_int ‹decide (((k2.1 : Nat) : Int) < ((l.length : Nat) : Int)) = false›
        rw [hk2.2, List.take_of_length_le hge]
      have hlay := lay_round hix hk1 hk3
      refine Round.go (fun _ => (i.1 + 1, k2.2)) ⟨by show i.1 + 1 ≤ steps.length + 1; omega, by show k2.2 = layK l steps x (i.1 + 1); rw [hlay, ← put_no hge3]⟩ (by show steps.length + 1 - (i.1 + 1) < steps.length + 1 - i.1; omega) (Weak.list [(0, some 0), (1, some 1), (2, some 2)] [] (by kernel_rfl) ?_ ?_)
      · repeat' (first | exact wsucc hlt (by omega) | exact OW.cells rfl rfl (DWl.same (rowS_all _)) | exact OW.cells rfl rfl (DWl.cons (DW.int rfl) DWl.nil) | exact DW.same _ rfl | exact DW.ref _ _ _ rfl | exact DW.arr _ _ _ rfl | exact OW.cells rfl rfl (DWl.same rfl) | refine OW.cells rfl rfl ?_ | refine DWl.cons ?_ ?_ | exact DWl.nil | exact DW.nilArr _ rfl | exact DW.nilLst _ | refine DW.clol ?_ ?_ | refine DW.aggl ?_ | refine DW.tupl ?_ | refine DW.int ?_ | refine DW.bool ?_ | refine DW.str ?_ | refine DW.arrE rfl ?_ | ((conv => whnf); first | refine And.intro ?_ ?_ | trivial))
      · repeat' (first | exact wsucc hlt (by omega) | exact OW.cells rfl rfl (DWl.same (rowS_all _)) | exact OW.cells rfl rfl (DWl.cons (DW.int rfl) DWl.nil) | exact DW.same _ rfl | exact DW.ref _ _ _ rfl | exact DW.arr _ _ _ rfl | exact OW.cells rfl rfl (DWl.same rfl) | refine OW.cells rfl rfl ?_ | refine DWl.cons ?_ ?_ | exact DWl.nil | exact DW.nilArr _ rfl | exact DW.nilLst _ | refine DW.clol ?_ ?_ | refine DW.aggl ?_ | refine DW.tupl ?_ | refine DW.int ?_ | refine DW.bool ?_ | refine DW.str ?_ | refine DW.arrE rfl ?_ | ((conv => whnf); first | refine And.intro ?_ ?_ | trivial))
  · rename_i i hi
    have hge : i.1 = steps.length + 1 := by have := ge_int h; omega
    have e4 : i.2.1 = layT l steps x := by rw [layT, ← hge, ← hi.2]
    conv => whnf
    exact LayQ.of e4
end Go.Proofs.YtgaghkchdiepoaaDoor

/- A plan laid, by the program: as data, and as a new row. -/
namespace Go.Proofs.YtgaghkchdiepoaaDoor
open Go.RowKit Go.Dl
attribute [local irreducible] Tri SCall TSem ECall Drawn DFun QSem PSem PCall GCall MCall Round Weak dloadE OW DWl Tells IntKind.wrap Retold ESem
theorem lay14_D (n : Int) (l : List Mx) (steps : List Stp) (x : Int) (hf : FitP n l) (hs : steps.length ≤ 4096) : DPure Tryd.prog 14 [int1 n, stps steps, mxs l, u64 x] (stps (layT l steps x)) :=
  DFun.data ((lay14_Q n l steps x hf hs).mono fun r s h => by
    obtain ⟨x', e, h1, h2⟩ := h
    subst h1 h2
    exact Tells.mk (DW.pubM rfl rfl rfl rfl (stpsRow _) (rowS_eq _)))
theorem lay14_O (n : Int) (l : List Mx) (steps : List Stp) (x : Int) (hf : FitP n l) (hs : steps.length ≤ 4096) : DFun Tryd.prog 14 [int1 n, stps steps, mxs l, u64 x] fun r s => r = .arr 0 (layT l steps x).length ∧ s = .of [(0, ⟨34, 6, rowS (layT l steps x)⟩)] 1 :=
  (lay14_Q n l steps x hf hs).retell fun r s h => by
    obtain ⟨x', e, h1, h2⟩ := h
    subst h1 h2
    refine ⟨[(0, some 2)], [], by kernel_rfl, DW.arr _ _ _ rfl, ?_⟩
    repeat' (first | exact OW.same rfl rfl rfl (rowS_all _) | ((conv => whnf); first | refine And.intro ?_ ?_ | trivial))
end Go.Proofs.YtgaghkchdiepoaaDoor

/- What ends and what begins ahead of a step: the document's. -/
namespace Go.Proofs.YtgaghkchdiepoaaDoor
open Go.RowKit Go.Dl
attribute [local irreducible] Tri SCall TSem ECall Drawn DFun QSem PSem PCall GCall MCall Round Weak dloadE OW DWl Tells Retold ESem
theorem heal_noD {i n : Int} {m : Mx} (h : (bif bif decide (m.til ≤ m.fr) then true else decide (n ≤ m.fr) then true else i != if n < m.til then n else m.til) = true) : healT i n m = [] := by
  unfold healT
  rw [if_pos]
  simp only [Bool.cond_true_left, Bool.or_eq_true, decide_eq_true_eq, bne_iff_ne] at h
  rw [Int.min_def]
  split at h <;> split <;> omega
theorem heal_inD {i n : Int} {m : Mx} (h : (bif bif decide (m.til ≤ m.fr) then true else decide (n ≤ m.fr) then true else i != if n < m.til then n else m.til) = false) : ¬ (m.til ≤ m.fr ∨ n ≤ m.fr ∨ i ≠ min m.til n) := by
  simp only [Bool.cond_true_left, Bool.or_eq_false_iff, decide_eq_false_iff_not, bne_eq_false_iff_eq] at h
  rw [Int.min_def]
  split at h <;> split <;> omega
set_option maxRecDepth 20000 in
theorem ends34_D (m : Mx) (i n : Int) : DPure Tryd.prog 34 [.agg (mxD m), int1 i, int1 n] (stps (healT i n m)) := by
  refine DFun.data (DFun.body Tryd.func34 rfl (by kernel_rfl) ?_)
  repeat' (first | with_reducible rfl | ((conv => whnf); first | refine And.intro ?_ ?_ | (intro h; first | with_reducible exact tf_no h | with_reducible exact ft_no h | exact Bool.noConfusion h | with_reducible exact h | (have ht : true = true := h; clear ht h) | skip) | ((with_reducible refine DWl.mark ?_); repeat' (first | refine DWl.cons ?_ ?_ | exact DWl.nil | exact DW.same _ rfl | exact DW.ref _ _ _ rfl | exact DW.arr _ _ _ rfl | exact DW.sub _ _ _ _ rfl | exact DW.nilLst _ | refine DW.aggl ?_ | refine DW.tupl ?_ | refine DW.clol ?_ ?_ | refine DW.int ?_ | refine DW.bool ?_ | refine DW.str ?_)) | ((with_reducible refine ECall.mark ?_); first | refine ECall.only ?_ (fun h => nomatch h) | refine ECall.only ?_ ?_) | ((with_reducible refine Drawn.mark ?_); first | refine Drawn.quiet (by kernel_rfl) ?_) | refine dcell_ok rfl ?_ | refine AppC.new ?_))
  all_goals first | (with_reducible refine enters_mark ?_; kernel_rfl) | (with_reducible refine boolT_mark ?_; kernel_rfl) | rfl | trivial | assumption | exact Nat.le_of_ble_eq_true rfl | (show entersB _ _ = true; kernel_rfl) | exact DW.same _ rfl | exact DW.ref _ _ _ rfl | exact DW.arr _ _ _ rfl | refine DW.int ?_ | refine dvb ?_ | refine dvi ?_ | exact OW.cells rfl rfl (DWl.same rfl) | exact Nat.zero_le _ | omega | skip
  all_goals repeat' (first | refine OW.cells rfl rfl ?_ | exact DW.nilArr _ rfl | refine DWl.cons ?_ ?_ | exact DWl.nil | exact DW.same _ rfl | exact DW.ref _ _ _ rfl | exact DW.arr _ _ _ rfl | exact DW.sub _ _ _ _ rfl | exact DW.nilLst _ | refine DW.aggl ?_ | refine DW.tupl ?_ | refine DW.clol ?_ ?_)
  all_goals try ((conv => whnf); with_reducible first | refine Round.mark ?_ | refine Tells.mark ?_ | refine Retold.mark ?_)
  all_goals try first | (show (_ : Bool) = _; simp_all; done) | (show (_ : Int) < _; simp at *; omega) | (show (_ : Int) ≤ _; simp at *; omega) | (show (_ : Nat) < _; simp at *; omega) | (show (_ : Nat) ≤ _; simp at *; omega)
  · exact Tells.of (r1 := stps []) (by rw [heal_noD h]) (Tells.mk (DW.nilLst _))
  · rename_i h1
    exact Tells.of (r1 := stps [mk 15 m.a m.b 0]) (by rw [heal_4 (heal_inD h1) (eq_of_beq h)]) (Tells.mk (DW.pubM (l := [mk 15 m.a m.b 0]) rfl rfl rfl rfl (stpsRow _) rfl))
  · rename_i h1 h4
    exact Tells.of (r1 := stps [mk 11 m.a 0 (-1)]) (by rw [heal_5 (heal_inD h1) (eq_of_beq h)]) (Tells.mk (DW.pubM (l := [mk 11 m.a 0 (-1)]) rfl rfl rfl rfl (stpsRow _) rfl))
  · rename_i h1 h4
    exact Tells.of (r1 := stps []) (by rw [heal_0 (by simpa using h4) (by simpa using h)]) (Tells.mk (DW.nilLst _))
theorem draw35 {x rate : Int} {W b : Bool} (hW : (W == false) = true) (h : (bif W then true else decide (rate ≤ (IntKind.i64.wrap (valU (stepU x))).tmod 1000)) = b) : decide (rate ≤ valU (stepU x) % 1000) = b := by
  have hW : W = false := by simpa using hW
  rw [hW, valW, Int.tmod_eq_emod_of_nonneg (valU_range x).1] at h
  exact h
theorem harm_missD {i e x : Int} {m : Mx} {W : Bool} (h4 : m.kind ≠ 4 ∧ m.kind ≠ 5 ∧ i ≠ e ∧ m.fr < m.til ∧ m.fr ≤ i ∧ i < m.til) (hW : (W == false) = true) (h : (bif W then true else decide (m.rate ≤ (IntKind.i64.wrap (valU (stepU x))).tmod 1000)) = true) : harmT i e m x = ([], stepU x) := by
  unfold harmT
  rw [if_neg (by omega), if_neg h4.1, if_neg h4.2.1, if_neg (by omega), if_pos (of_decide_eq_true (draw35 hW h))]
theorem harm_hitD {i e x : Int} {m : Mx} {W : Bool} (h4 : m.kind ≠ 4 ∧ m.kind ≠ 5 ∧ i ≠ e ∧ m.fr < m.til ∧ m.fr ≤ i ∧ i < m.til) (hW : (W == false) = true) (h : (bif W then true else decide (m.rate ≤ (IntKind.i64.wrap (valU (stepU x))).tmod 1000)) = false) : harmT i e m x = ([mk (kindR m.kind) 0 0 (IntKind.i64.wrap (valU (stepU (stepU x))))], stepU (stepU x)) := by
  unfold harmT
  rw [if_neg (by omega), if_neg h4.1, if_neg h4.2.1, if_neg (by omega), if_neg (of_decide_eq_false (draw35 hW h)), valW]
theorem no35 {W c : Bool} (h1 : (W == false) = false) : ¬ ((bif W then true else c) = false) := by
  cases W
  · cases h1
  · intro h; cases h
theorem grant35 {W : Bool} (h : (true && !W) = true) : (W == false) = true := by
  cases W
  · rfl
  · cases h
def DS (x : Int) : Sto := .of [(0, ⟨68, 1, [u64 x]⟩)] 1
set_option maxRecDepth 20000 in
set_option maxHeartbeats 1000000 in
theorem begins35_1 (x e i : Int) (fr til rate a b : Int) : SCall Tryd.prog 35 [.agg (mxD ⟨1, fr, til, rate, a, b⟩), int1 i, int1 e, .ref 0 0] (DS x) fun r s => r = stps (harmT i e ⟨1, fr, til, rate, a, b⟩ x).1 ∧ s = DS (harmT i e ⟨1, fr, til, rate, a, b⟩ x).2 := by
  refine SCall.retell (SCall.run Tryd.func35 rfl (Nat.le_of_ble_eq_true rfl) (by kernel_rfl) ?_)
  repeat' (first | with_reducible rfl | ((conv => whnf); first | refine And.intro ?_ ?_ | (intro h; first | with_reducible exact tf_no h | with_reducible exact ft_no h | exact Bool.noConfusion h | with_reducible exact h | (exfalso; simp at h; done) | (exfalso; simp_all; done) | (have ht : true = true := h; clear ht h) | skip) | ((with_reducible refine DWl.mark ?_); repeat' (first | refine DWl.cons ?_ ?_ | exact DWl.nil | exact DW.same _ rfl | exact DW.ref _ _ _ rfl | exact DW.arr _ _ _ rfl | exact DW.sub _ _ _ _ rfl | exact DW.nilLst _ | refine DW.aggl ?_ | refine DW.tupl ?_ | refine DW.clol ?_ ?_ | refine DW.int ?_ | refine DW.bool ?_ | refine DW.str ?_)) | ((with_reducible refine SCall.mark ?_); first | refine SCall.run Tryd.func44 rfl (Nat.le_of_ble_eq_true rfl) (by kernel_rfl) ?_) | ((with_reducible refine Tri.mark ?_); first | (refine Tri.treeX [0] (MX.mv 0 0 (MX.mv 0 1 (MX.mv 0 2 (MX.mv 0 3 (MX.mv 0 4 (MX.mv 0 5 (MX.mv 0 6 (MX.mv 0 7 (MX.mv 0 8 (MX.mv 0 9 (MX.mv 0 10 (MX.mv 0 11 (MX.mv 0 14 (MX.mv 0 15 (MX.mv 2 12 (MX.mv 0 13 (MX.mv 0 16 (MX.mv 0 17 MX.done)))))))))))))))))) ?_ (by kernel_rfl) ?_; rfl)) | ((with_reducible refine ECall.mark ?_); first | with_reducible refine ECall.alt (g := (_ == false)) (.v (.int .i64 0)) ?_ ?_ | refine ECall.only ?_ (fun h => nomatch h) | refine ECall.only ?_ ?_) | ((with_reducible refine Drawn.mark ?_); first | (refine Drawn.tree ?_; refine Tri.treeX [0] (MX.mv 0 0 (MX.mv 0 1 (MX.mv 0 2 (MX.mv 0 3 (MX.mv 0 4 (MX.mv 0 5 (MX.mv 0 6 (MX.mv 0 7 (MX.mv 0 8 (MX.mv 0 9 (MX.mv 0 10 (MX.mv 0 11 (MX.mv 0 14 (MX.mv 0 15 (MX.mv 2 12 (MX.mv 0 13 (MX.mv 0 16 (MX.mv 0 17 MX.done)))))))))))))))))) ?_ (by kernel_rfl) ?_; rfl) | refine Drawn.quiet (by kernel_rfl) ?_) | refine dcell_ok rfl ?_ | refine AppC.new ?_))
  all_goals first | (with_reducible refine enters_mark ?_; kernel_rfl) | (with_reducible refine boolT_mark ?_; kernel_rfl) | rfl | trivial | assumption | exact Nat.le_of_ble_eq_true rfl | (show entersB _ _ = true; kernel_rfl) | exact DW.same _ rfl | exact DW.ref _ _ _ rfl | exact DW.arr _ _ _ rfl | refine DW.int ?_ | refine dvb ?_ | refine dvi ?_ | exact OW.cells rfl rfl (DWl.same rfl) | exact Nat.zero_le _ | omega | skip
  all_goals repeat' (first | refine OW.cells rfl rfl ?_ | exact DW.nilArr _ rfl | refine DWl.cons ?_ ?_ | exact DWl.nil | exact DW.same _ rfl | exact DW.ref _ _ _ rfl | exact DW.arr _ _ _ rfl | exact DW.sub _ _ _ _ rfl | exact DW.nilLst _ | refine DW.aggl ?_ | refine DW.tupl ?_ | refine DW.clol ?_ ?_)
  all_goals try ((conv => whnf); with_reducible first | refine Round.mark ?_ | refine Tells.mark ?_ | refine Retold.mark ?_)
  all_goals try first | (show (_ : Bool) = _; simp_all; done) | (show (_ : Int) < _; simp at *; omega) | (show (_ : Int) ≤ _; simp at *; omega) | (show (_ : Nat) < _; simp at *; omega) | (show (_ : Nat) ≤ _; simp at *; omega)
  all_goals first | (with_reducible exact grant35 h) | (refine cutl (T := harmT i e ⟨1, fr, til, rate, a, b⟩ x = ([], x)) (harm_none ?hyp) ?_; (case hyp => simp at *; omega); intro hE; refine Retold.list [] [] (stps []) [(0, ⟨68, 1, [u64 (x)]⟩)] 1 (by kernel_rfl) (DW.nilLst _) ?_ ⟨by rw [hE], by rw [hE]; rfl⟩; (repeat' (first | exact OW.cells rfl rfl (DWl.cons (DW.int rfl) DWl.nil) | ((conv => whnf); first | refine And.intro ?_ ?_ | trivial))); done) | (with_reducible exact absurd h (no35 ‹((_ : Bool) == false) = false›)) | (refine cutl (T := harmT i e ⟨1, fr, til, rate, a, b⟩ x = ([], stepU x)) (harm_missD ?hyp ‹((_ : Bool) == false) = true› h) ?_; (case hyp => clear h; simp at *; omega); intro hE; refine Retold.list [] [] (stps []) [(0, ⟨68, 1, [u64 (stepU x)]⟩)] 1 (by kernel_rfl) (DW.nilLst _) ?_ ⟨by rw [hE], by rw [hE]; rfl⟩; (repeat' (first | exact OW.cells rfl rfl (DWl.cons (DW.int rfl) DWl.nil) | ((conv => whnf); first | refine And.intro ?_ ?_ | trivial))); done) | (refine cutl (T := harmT i e ⟨1, fr, til, rate, a, b⟩ x = ([mk 8 0 0 (IntKind.i64.wrap (valU (stepU (stepU x))))], stepU (stepU x))) (harm_hitD ?hyp ‹((_ : Bool) == false) = true› h) ?_; (case hyp => clear h; simp at *; omega); intro hE; refine Retold.list [] [2] (stps [mk 8 0 0 (IntKind.i64.wrap (valU (stepU (stepU x))))]) [(0, ⟨68, 1, [u64 (stepU (stepU x))]⟩)] 1 (by kernel_rfl) (DW.pubE (es := [stpD (mk 8 0 0 (IntKind.i64.wrap (valU (stepU (stepU x)))))]) rfl rfl (by decide) (List.mem_singleton.2 rfl) rfl (stpsRow [mk 8 0 0 (IntKind.i64.wrap (valU (stepU (stepU x))))]) rfl) ?_ ⟨by rw [hE], by rw [hE]; rfl⟩; (repeat' (first | exact OW.cells rfl rfl (DWl.cons (DW.int rfl) DWl.nil) | ((conv => whnf); first | refine And.intro ?_ ?_ | trivial))); done)
set_option maxRecDepth 20000 in
set_option maxHeartbeats 1000000 in
theorem begins35_2 (x e i : Int) (fr til rate a b : Int) : SCall Tryd.prog 35 [.agg (mxD ⟨2, fr, til, rate, a, b⟩), int1 i, int1 e, .ref 0 0] (DS x) fun r s => r = stps (harmT i e ⟨2, fr, til, rate, a, b⟩ x).1 ∧ s = DS (harmT i e ⟨2, fr, til, rate, a, b⟩ x).2 := by
  refine SCall.retell (SCall.run Tryd.func35 rfl (Nat.le_of_ble_eq_true rfl) (by kernel_rfl) ?_)
  repeat' (first | with_reducible rfl | ((conv => whnf); first | refine And.intro ?_ ?_ | (intro h; first | with_reducible exact tf_no h | with_reducible exact ft_no h | exact Bool.noConfusion h | with_reducible exact h | (exfalso; simp at h; done) | (exfalso; simp_all; done) | (have ht : true = true := h; clear ht h) | skip) | ((with_reducible refine DWl.mark ?_); repeat' (first | refine DWl.cons ?_ ?_ | exact DWl.nil | exact DW.same _ rfl | exact DW.ref _ _ _ rfl | exact DW.arr _ _ _ rfl | exact DW.sub _ _ _ _ rfl | exact DW.nilLst _ | refine DW.aggl ?_ | refine DW.tupl ?_ | refine DW.clol ?_ ?_ | refine DW.int ?_ | refine DW.bool ?_ | refine DW.str ?_)) | ((with_reducible refine SCall.mark ?_); first | refine SCall.run Tryd.func44 rfl (Nat.le_of_ble_eq_true rfl) (by kernel_rfl) ?_) | ((with_reducible refine Tri.mark ?_); first | (refine Tri.treeX [0] (MX.mv 0 0 (MX.mv 0 1 (MX.mv 0 2 (MX.mv 0 3 (MX.mv 0 4 (MX.mv 0 5 (MX.mv 0 6 (MX.mv 0 7 (MX.mv 0 8 (MX.mv 0 9 (MX.mv 0 10 (MX.mv 0 11 (MX.mv 0 14 (MX.mv 0 15 (MX.mv 2 12 (MX.mv 0 13 (MX.mv 0 16 (MX.mv 0 17 MX.done)))))))))))))))))) ?_ (by kernel_rfl) ?_; rfl)) | ((with_reducible refine ECall.mark ?_); first | with_reducible refine ECall.alt (g := (_ == false)) (.v (.int .i64 0)) ?_ ?_ | refine ECall.only ?_ (fun h => nomatch h) | refine ECall.only ?_ ?_) | ((with_reducible refine Drawn.mark ?_); first | (refine Drawn.tree ?_; refine Tri.treeX [0] (MX.mv 0 0 (MX.mv 0 1 (MX.mv 0 2 (MX.mv 0 3 (MX.mv 0 4 (MX.mv 0 5 (MX.mv 0 6 (MX.mv 0 7 (MX.mv 0 8 (MX.mv 0 9 (MX.mv 0 10 (MX.mv 0 11 (MX.mv 0 14 (MX.mv 0 15 (MX.mv 2 12 (MX.mv 0 13 (MX.mv 0 16 (MX.mv 0 17 MX.done)))))))))))))))))) ?_ (by kernel_rfl) ?_; rfl) | refine Drawn.quiet (by kernel_rfl) ?_) | refine dcell_ok rfl ?_ | refine AppC.new ?_))
  all_goals first | (with_reducible refine enters_mark ?_; kernel_rfl) | (with_reducible refine boolT_mark ?_; kernel_rfl) | rfl | trivial | assumption | exact Nat.le_of_ble_eq_true rfl | (show entersB _ _ = true; kernel_rfl) | exact DW.same _ rfl | exact DW.ref _ _ _ rfl | exact DW.arr _ _ _ rfl | refine DW.int ?_ | refine dvb ?_ | refine dvi ?_ | exact OW.cells rfl rfl (DWl.same rfl) | exact Nat.zero_le _ | omega | skip
  all_goals repeat' (first | refine OW.cells rfl rfl ?_ | exact DW.nilArr _ rfl | refine DWl.cons ?_ ?_ | exact DWl.nil | exact DW.same _ rfl | exact DW.ref _ _ _ rfl | exact DW.arr _ _ _ rfl | exact DW.sub _ _ _ _ rfl | exact DW.nilLst _ | refine DW.aggl ?_ | refine DW.tupl ?_ | refine DW.clol ?_ ?_)
  all_goals try ((conv => whnf); with_reducible first | refine Round.mark ?_ | refine Tells.mark ?_ | refine Retold.mark ?_)
  all_goals try first | (show (_ : Bool) = _; simp_all; done) | (show (_ : Int) < _; simp at *; omega) | (show (_ : Int) ≤ _; simp at *; omega) | (show (_ : Nat) < _; simp at *; omega) | (show (_ : Nat) ≤ _; simp at *; omega)
  all_goals first | (with_reducible exact grant35 h) | (refine cutl (T := harmT i e ⟨2, fr, til, rate, a, b⟩ x = ([], x)) (harm_none ?hyp) ?_; (case hyp => simp at *; omega); intro hE; refine Retold.list [] [] (stps []) [(0, ⟨68, 1, [u64 (x)]⟩)] 1 (by kernel_rfl) (DW.nilLst _) ?_ ⟨by rw [hE], by rw [hE]; rfl⟩; (repeat' (first | exact OW.cells rfl rfl (DWl.cons (DW.int rfl) DWl.nil) | ((conv => whnf); first | refine And.intro ?_ ?_ | trivial))); done) | (with_reducible exact absurd h (no35 ‹((_ : Bool) == false) = false›)) | (refine cutl (T := harmT i e ⟨2, fr, til, rate, a, b⟩ x = ([], stepU x)) (harm_missD ?hyp ‹((_ : Bool) == false) = true› h) ?_; (case hyp => clear h; simp at *; omega); intro hE; refine Retold.list [] [] (stps []) [(0, ⟨68, 1, [u64 (stepU x)]⟩)] 1 (by kernel_rfl) (DW.nilLst _) ?_ ⟨by rw [hE], by rw [hE]; rfl⟩; (repeat' (first | exact OW.cells rfl rfl (DWl.cons (DW.int rfl) DWl.nil) | ((conv => whnf); first | refine And.intro ?_ ?_ | trivial))); done) | (refine cutl (T := harmT i e ⟨2, fr, til, rate, a, b⟩ x = ([mk 9 0 0 (IntKind.i64.wrap (valU (stepU (stepU x))))], stepU (stepU x))) (harm_hitD ?hyp ‹((_ : Bool) == false) = true› h) ?_; (case hyp => clear h; simp at *; omega); intro hE; refine Retold.list [] [2] (stps [mk 9 0 0 (IntKind.i64.wrap (valU (stepU (stepU x))))]) [(0, ⟨68, 1, [u64 (stepU (stepU x))]⟩)] 1 (by kernel_rfl) (DW.pubE (es := [stpD (mk 9 0 0 (IntKind.i64.wrap (valU (stepU (stepU x)))))]) rfl rfl (by decide) (List.mem_singleton.2 rfl) rfl (stpsRow [mk 9 0 0 (IntKind.i64.wrap (valU (stepU (stepU x))))]) rfl) ?_ ⟨by rw [hE], by rw [hE]; rfl⟩; (repeat' (first | exact OW.cells rfl rfl (DWl.cons (DW.int rfl) DWl.nil) | ((conv => whnf); first | refine And.intro ?_ ?_ | trivial))); done)
set_option maxRecDepth 20000 in
set_option maxHeartbeats 1000000 in
theorem begins35_3 (x e i : Int) (fr til rate a b : Int) : SCall Tryd.prog 35 [.agg (mxD ⟨3, fr, til, rate, a, b⟩), int1 i, int1 e, .ref 0 0] (DS x) fun r s => r = stps (harmT i e ⟨3, fr, til, rate, a, b⟩ x).1 ∧ s = DS (harmT i e ⟨3, fr, til, rate, a, b⟩ x).2 := by
  refine SCall.retell (SCall.run Tryd.func35 rfl (Nat.le_of_ble_eq_true rfl) (by kernel_rfl) ?_)
  repeat' (first | with_reducible rfl | ((conv => whnf); first | refine And.intro ?_ ?_ | (intro h; first | with_reducible exact tf_no h | with_reducible exact ft_no h | exact Bool.noConfusion h | with_reducible exact h | (exfalso; simp at h; done) | (exfalso; simp_all; done) | (have ht : true = true := h; clear ht h) | skip) | ((with_reducible refine DWl.mark ?_); repeat' (first | refine DWl.cons ?_ ?_ | exact DWl.nil | exact DW.same _ rfl | exact DW.ref _ _ _ rfl | exact DW.arr _ _ _ rfl | exact DW.sub _ _ _ _ rfl | exact DW.nilLst _ | refine DW.aggl ?_ | refine DW.tupl ?_ | refine DW.clol ?_ ?_ | refine DW.int ?_ | refine DW.bool ?_ | refine DW.str ?_)) | ((with_reducible refine SCall.mark ?_); first | refine SCall.run Tryd.func44 rfl (Nat.le_of_ble_eq_true rfl) (by kernel_rfl) ?_) | ((with_reducible refine Tri.mark ?_); first | (refine Tri.treeX [0] (MX.mv 0 0 (MX.mv 0 1 (MX.mv 0 2 (MX.mv 0 3 (MX.mv 0 4 (MX.mv 0 5 (MX.mv 0 6 (MX.mv 0 7 (MX.mv 0 8 (MX.mv 0 9 (MX.mv 0 10 (MX.mv 0 11 (MX.mv 0 14 (MX.mv 0 15 (MX.mv 2 12 (MX.mv 0 13 (MX.mv 0 16 (MX.mv 0 17 MX.done)))))))))))))))))) ?_ (by kernel_rfl) ?_; rfl)) | ((with_reducible refine ECall.mark ?_); first | with_reducible refine ECall.alt (g := (_ == false)) (.v (.int .i64 0)) ?_ ?_ | refine ECall.only ?_ (fun h => nomatch h) | refine ECall.only ?_ ?_) | ((with_reducible refine Drawn.mark ?_); first | (refine Drawn.tree ?_; refine Tri.treeX [0] (MX.mv 0 0 (MX.mv 0 1 (MX.mv 0 2 (MX.mv 0 3 (MX.mv 0 4 (MX.mv 0 5 (MX.mv 0 6 (MX.mv 0 7 (MX.mv 0 8 (MX.mv 0 9 (MX.mv 0 10 (MX.mv 0 11 (MX.mv 0 14 (MX.mv 0 15 (MX.mv 2 12 (MX.mv 0 13 (MX.mv 0 16 (MX.mv 0 17 MX.done)))))))))))))))))) ?_ (by kernel_rfl) ?_; rfl) | refine Drawn.quiet (by kernel_rfl) ?_) | refine dcell_ok rfl ?_ | refine AppC.new ?_))
  all_goals first | (with_reducible refine enters_mark ?_; kernel_rfl) | (with_reducible refine boolT_mark ?_; kernel_rfl) | rfl | trivial | assumption | exact Nat.le_of_ble_eq_true rfl | (show entersB _ _ = true; kernel_rfl) | exact DW.same _ rfl | exact DW.ref _ _ _ rfl | exact DW.arr _ _ _ rfl | refine DW.int ?_ | refine dvb ?_ | refine dvi ?_ | exact OW.cells rfl rfl (DWl.same rfl) | exact Nat.zero_le _ | omega | skip
  all_goals repeat' (first | refine OW.cells rfl rfl ?_ | exact DW.nilArr _ rfl | refine DWl.cons ?_ ?_ | exact DWl.nil | exact DW.same _ rfl | exact DW.ref _ _ _ rfl | exact DW.arr _ _ _ rfl | exact DW.sub _ _ _ _ rfl | exact DW.nilLst _ | refine DW.aggl ?_ | refine DW.tupl ?_ | refine DW.clol ?_ ?_)
  all_goals try ((conv => whnf); with_reducible first | refine Round.mark ?_ | refine Tells.mark ?_ | refine Retold.mark ?_)
  all_goals try first | (show (_ : Bool) = _; simp_all; done) | (show (_ : Int) < _; simp at *; omega) | (show (_ : Int) ≤ _; simp at *; omega) | (show (_ : Nat) < _; simp at *; omega) | (show (_ : Nat) ≤ _; simp at *; omega)
  all_goals first | (with_reducible exact grant35 h) | (refine cutl (T := harmT i e ⟨3, fr, til, rate, a, b⟩ x = ([], x)) (harm_none ?hyp) ?_; (case hyp => simp at *; omega); intro hE; refine Retold.list [] [] (stps []) [(0, ⟨68, 1, [u64 (x)]⟩)] 1 (by kernel_rfl) (DW.nilLst _) ?_ ⟨by rw [hE], by rw [hE]; rfl⟩; (repeat' (first | exact OW.cells rfl rfl (DWl.cons (DW.int rfl) DWl.nil) | ((conv => whnf); first | refine And.intro ?_ ?_ | trivial))); done) | (with_reducible exact absurd h (no35 ‹((_ : Bool) == false) = false›)) | (refine cutl (T := harmT i e ⟨3, fr, til, rate, a, b⟩ x = ([], stepU x)) (harm_missD ?hyp ‹((_ : Bool) == false) = true› h) ?_; (case hyp => clear h; simp at *; omega); intro hE; refine Retold.list [] [] (stps []) [(0, ⟨68, 1, [u64 (stepU x)]⟩)] 1 (by kernel_rfl) (DW.nilLst _) ?_ ⟨by rw [hE], by rw [hE]; rfl⟩; (repeat' (first | exact OW.cells rfl rfl (DWl.cons (DW.int rfl) DWl.nil) | ((conv => whnf); first | refine And.intro ?_ ?_ | trivial))); done) | (refine cutl (T := harmT i e ⟨3, fr, til, rate, a, b⟩ x = ([mk 7 0 0 (IntKind.i64.wrap (valU (stepU (stepU x))))], stepU (stepU x))) (harm_hitD ?hyp ‹((_ : Bool) == false) = true› h) ?_; (case hyp => clear h; simp at *; omega); intro hE; refine Retold.list [] [2] (stps [mk 7 0 0 (IntKind.i64.wrap (valU (stepU (stepU x))))]) [(0, ⟨68, 1, [u64 (stepU (stepU x))]⟩)] 1 (by kernel_rfl) (DW.pubE (es := [stpD (mk 7 0 0 (IntKind.i64.wrap (valU (stepU (stepU x)))))]) rfl rfl (by decide) (List.mem_singleton.2 rfl) rfl (stpsRow [mk 7 0 0 (IntKind.i64.wrap (valU (stepU (stepU x))))]) rfl) ?_ ⟨by rw [hE], by rw [hE]; rfl⟩; (repeat' (first | exact OW.cells rfl rfl (DWl.cons (DW.int rfl) DWl.nil) | ((conv => whnf); first | refine And.intro ?_ ?_ | trivial))); done)
set_option maxRecDepth 20000 in
set_option maxHeartbeats 1000000 in
theorem begins35_4 (x e i : Int) (fr til rate a b : Int) : SCall Tryd.prog 35 [.agg (mxD ⟨4, fr, til, rate, a, b⟩), int1 i, int1 e, .ref 0 0] (DS x) fun r s => r = stps (harmT i e ⟨4, fr, til, rate, a, b⟩ x).1 ∧ s = DS (harmT i e ⟨4, fr, til, rate, a, b⟩ x).2 := by
  refine SCall.retell (SCall.run Tryd.func35 rfl (Nat.le_of_ble_eq_true rfl) (by kernel_rfl) ?_)
  repeat' (first | with_reducible rfl | ((conv => whnf); first | refine And.intro ?_ ?_ | (intro h; first | with_reducible exact tf_no h | with_reducible exact ft_no h | exact Bool.noConfusion h | with_reducible exact h | (exfalso; simp at h; done) | (exfalso; simp_all; done) | (have ht : true = true := h; clear ht h) | skip) | ((with_reducible refine DWl.mark ?_); repeat' (first | refine DWl.cons ?_ ?_ | exact DWl.nil | exact DW.same _ rfl | exact DW.ref _ _ _ rfl | exact DW.arr _ _ _ rfl | exact DW.sub _ _ _ _ rfl | exact DW.nilLst _ | refine DW.aggl ?_ | refine DW.tupl ?_ | refine DW.clol ?_ ?_ | refine DW.int ?_ | refine DW.bool ?_ | refine DW.str ?_)) | ((with_reducible refine SCall.mark ?_); first | refine SCall.run Tryd.func44 rfl (Nat.le_of_ble_eq_true rfl) (by kernel_rfl) ?_) | ((with_reducible refine Tri.mark ?_); first | (refine Tri.treeX [0] (MX.mv 0 0 (MX.mv 0 1 (MX.mv 0 2 (MX.mv 0 3 (MX.mv 0 4 (MX.mv 0 5 (MX.mv 0 6 (MX.mv 0 7 (MX.mv 0 8 (MX.mv 0 9 (MX.mv 0 10 (MX.mv 0 11 (MX.mv 0 14 (MX.mv 0 15 (MX.mv 2 12 (MX.mv 0 13 (MX.mv 0 16 (MX.mv 0 17 MX.done)))))))))))))))))) ?_ (by kernel_rfl) ?_; rfl)) | ((with_reducible refine ECall.mark ?_); first | with_reducible refine ECall.alt (g := (_ == false)) (.v (.int .i64 0)) ?_ ?_ | refine ECall.only ?_ (fun h => nomatch h) | refine ECall.only ?_ ?_) | ((with_reducible refine Drawn.mark ?_); first | (refine Drawn.tree ?_; refine Tri.treeX [0] (MX.mv 0 0 (MX.mv 0 1 (MX.mv 0 2 (MX.mv 0 3 (MX.mv 0 4 (MX.mv 0 5 (MX.mv 0 6 (MX.mv 0 7 (MX.mv 0 8 (MX.mv 0 9 (MX.mv 0 10 (MX.mv 0 11 (MX.mv 0 14 (MX.mv 0 15 (MX.mv 2 12 (MX.mv 0 13 (MX.mv 0 16 (MX.mv 0 17 MX.done)))))))))))))))))) ?_ (by kernel_rfl) ?_; rfl) | refine Drawn.quiet (by kernel_rfl) ?_) | refine dcell_ok rfl ?_ | refine AppC.new ?_))
  all_goals first | (with_reducible refine enters_mark ?_; kernel_rfl) | (with_reducible refine boolT_mark ?_; kernel_rfl) | rfl | trivial | assumption | exact Nat.le_of_ble_eq_true rfl | (show entersB _ _ = true; kernel_rfl) | exact DW.same _ rfl | exact DW.ref _ _ _ rfl | exact DW.arr _ _ _ rfl | refine DW.int ?_ | refine dvb ?_ | refine dvi ?_ | exact OW.cells rfl rfl (DWl.same rfl) | exact Nat.zero_le _ | omega | skip
  all_goals repeat' (first | refine OW.cells rfl rfl ?_ | exact DW.nilArr _ rfl | refine DWl.cons ?_ ?_ | exact DWl.nil | exact DW.same _ rfl | exact DW.ref _ _ _ rfl | exact DW.arr _ _ _ rfl | exact DW.sub _ _ _ _ rfl | exact DW.nilLst _ | refine DW.aggl ?_ | refine DW.tupl ?_ | refine DW.clol ?_ ?_)
  all_goals try ((conv => whnf); with_reducible first | refine Round.mark ?_ | refine Tells.mark ?_ | refine Retold.mark ?_)
  all_goals try first | (show (_ : Bool) = _; simp_all; done) | (show (_ : Int) < _; simp at *; omega) | (show (_ : Int) ≤ _; simp at *; omega) | (show (_ : Nat) < _; simp at *; omega) | (show (_ : Nat) ≤ _; simp at *; omega)
  all_goals first | (simp_all; done) | (refine cutl (T := harmT i e ⟨4, fr, til, rate, a, b⟩ x = ([], x)) (harm_none ?hyp) ?_; (case hyp => simp at *; omega); intro hE; refine Retold.list [] [] (stps []) [(0, ⟨68, 1, [u64 (x)]⟩)] 1 (by kernel_rfl) (DW.nilLst _) ?_ ⟨by rw [hE], by rw [hE]; rfl⟩; (repeat' (first | exact OW.cells rfl rfl (DWl.cons (DW.int rfl) DWl.nil) | ((conv => whnf); first | refine And.intro ?_ ?_ | trivial))); done) | (refine cutl (T := harmT i e ⟨4, fr, til, rate, a, b⟩ x = ([mk 14 a b 0], x)) (harm_4 rfl ?hyp) ?_; (case hyp => simp at *; omega); intro hE; refine Retold.list [] [2] (stps [mk 14 a b 0]) [(0, ⟨68, 1, [u64 (x)]⟩)] 1 (by kernel_rfl) (DW.pubE (es := [stpD (mk 14 a b 0)]) rfl rfl (by decide) (List.mem_singleton.2 rfl) rfl (stpsRow [mk 14 a b 0]) rfl) ?_ ⟨by rw [hE], by rw [hE]; rfl⟩; (repeat' (first | exact OW.cells rfl rfl (DWl.cons (DW.int rfl) DWl.nil) | ((conv => whnf); first | refine And.intro ?_ ?_ | trivial))); done)
set_option maxRecDepth 20000 in
set_option maxHeartbeats 1000000 in
theorem begins35_5 (x e i : Int) (fr til rate a b : Int) : SCall Tryd.prog 35 [.agg (mxD ⟨5, fr, til, rate, a, b⟩), int1 i, int1 e, .ref 0 0] (DS x) fun r s => r = stps (harmT i e ⟨5, fr, til, rate, a, b⟩ x).1 ∧ s = DS (harmT i e ⟨5, fr, til, rate, a, b⟩ x).2 := by
  refine SCall.retell (SCall.run Tryd.func35 rfl (Nat.le_of_ble_eq_true rfl) (by kernel_rfl) ?_)
  repeat' (first | with_reducible rfl | ((conv => whnf); first | refine And.intro ?_ ?_ | (intro h; first | with_reducible exact tf_no h | with_reducible exact ft_no h | exact Bool.noConfusion h | with_reducible exact h | (exfalso; simp at h; done) | (exfalso; simp_all; done) | (have ht : true = true := h; clear ht h) | skip) | ((with_reducible refine DWl.mark ?_); repeat' (first | refine DWl.cons ?_ ?_ | exact DWl.nil | exact DW.same _ rfl | exact DW.ref _ _ _ rfl | exact DW.arr _ _ _ rfl | exact DW.sub _ _ _ _ rfl | exact DW.nilLst _ | refine DW.aggl ?_ | refine DW.tupl ?_ | refine DW.clol ?_ ?_ | refine DW.int ?_ | refine DW.bool ?_ | refine DW.str ?_)) | ((with_reducible refine SCall.mark ?_); first | refine SCall.run Tryd.func44 rfl (Nat.le_of_ble_eq_true rfl) (by kernel_rfl) ?_) | ((with_reducible refine Tri.mark ?_); first | (refine Tri.treeX [0] (MX.mv 0 0 (MX.mv 0 1 (MX.mv 0 2 (MX.mv 0 3 (MX.mv 0 4 (MX.mv 0 5 (MX.mv 0 6 (MX.mv 0 7 (MX.mv 0 8 (MX.mv 0 9 (MX.mv 0 10 (MX.mv 0 11 (MX.mv 0 14 (MX.mv 0 15 (MX.mv 2 12 (MX.mv 0 13 (MX.mv 0 16 (MX.mv 0 17 MX.done)))))))))))))))))) ?_ (by kernel_rfl) ?_; rfl)) | ((with_reducible refine ECall.mark ?_); first | with_reducible refine ECall.alt (g := (_ == false)) (.v (.int .i64 0)) ?_ ?_ | refine ECall.only ?_ (fun h => nomatch h) | refine ECall.only ?_ ?_) | ((with_reducible refine Drawn.mark ?_); first | (refine Drawn.tree ?_; refine Tri.treeX [0] (MX.mv 0 0 (MX.mv 0 1 (MX.mv 0 2 (MX.mv 0 3 (MX.mv 0 4 (MX.mv 0 5 (MX.mv 0 6 (MX.mv 0 7 (MX.mv 0 8 (MX.mv 0 9 (MX.mv 0 10 (MX.mv 0 11 (MX.mv 0 14 (MX.mv 0 15 (MX.mv 2 12 (MX.mv 0 13 (MX.mv 0 16 (MX.mv 0 17 MX.done)))))))))))))))))) ?_ (by kernel_rfl) ?_; rfl) | refine Drawn.quiet (by kernel_rfl) ?_) | refine dcell_ok rfl ?_ | refine AppC.new ?_))
  all_goals first | (with_reducible refine enters_mark ?_; kernel_rfl) | (with_reducible refine boolT_mark ?_; kernel_rfl) | rfl | trivial | assumption | exact Nat.le_of_ble_eq_true rfl | (show entersB _ _ = true; kernel_rfl) | exact DW.same _ rfl | exact DW.ref _ _ _ rfl | exact DW.arr _ _ _ rfl | refine DW.int ?_ | refine dvb ?_ | refine dvi ?_ | exact OW.cells rfl rfl (DWl.same rfl) | exact Nat.zero_le _ | omega | skip
  all_goals repeat' (first | refine OW.cells rfl rfl ?_ | exact DW.nilArr _ rfl | refine DWl.cons ?_ ?_ | exact DWl.nil | exact DW.same _ rfl | exact DW.ref _ _ _ rfl | exact DW.arr _ _ _ rfl | exact DW.sub _ _ _ _ rfl | exact DW.nilLst _ | refine DW.aggl ?_ | refine DW.tupl ?_ | refine DW.clol ?_ ?_)
  all_goals try ((conv => whnf); with_reducible first | refine Round.mark ?_ | refine Tells.mark ?_ | refine Retold.mark ?_)
  all_goals try first | (show (_ : Bool) = _; simp_all; done) | (show (_ : Int) < _; simp at *; omega) | (show (_ : Int) ≤ _; simp at *; omega) | (show (_ : Nat) < _; simp at *; omega) | (show (_ : Nat) ≤ _; simp at *; omega)
  all_goals first | (simp_all; done) | (refine cutl (T := harmT i e ⟨5, fr, til, rate, a, b⟩ x = ([], x)) (harm_none ?hyp) ?_; (case hyp => simp at *; omega); intro hE; refine Retold.list [] [] (stps []) [(0, ⟨68, 1, [u64 (x)]⟩)] 1 (by kernel_rfl) (DW.nilLst _) ?_ ⟨by rw [hE], by rw [hE]; rfl⟩; (repeat' (first | exact OW.cells rfl rfl (DWl.cons (DW.int rfl) DWl.nil) | ((conv => whnf); first | refine And.intro ?_ ?_ | trivial))); done) | (refine cutl (T := harmT i e ⟨5, fr, til, rate, a, b⟩ x = ([mk 10 a 0 0], x)) (harm_5 rfl ?hyp) ?_; (case hyp => simp at *; omega); intro hE; refine Retold.list [] [2] (stps [mk 10 a 0 0]) [(0, ⟨68, 1, [u64 (x)]⟩)] 1 (by kernel_rfl) (DW.pubE (es := [stpD (mk 10 a 0 0)]) rfl rfl (by decide) (List.mem_singleton.2 rfl) rfl (stpsRow [mk 10 a 0 0]) rfl) ?_ ⟨by rw [hE], by rw [hE]; rfl⟩; (repeat' (first | exact OW.cells rfl rfl (DWl.cons (DW.int rfl) DWl.nil) | ((conv => whnf); first | refine And.intro ?_ ?_ | trivial))); done)
end Go.Proofs.YtgaghkchdiepoaaDoor
