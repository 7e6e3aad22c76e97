/- What WatchTurns computes. -/
import Derived.Test.YtphgcgggbbcjgaaDoorX0
namespace Go.Proofs.YtphgcgggbbcjgaaDoor
open Go.RowKit Go.Dl
attribute [local irreducible] Tri SCall DFun QSem PSem PCall GCall MCall Round Weak dloadE OW DWl Tells IntKind.wrap Retold ESem

theorem _root_.Go.Dl.Tri.at {P : Program} {N : Nat} {Y : YT} {c : Code} {st : St} {Q : DExit → St → Prop} (t : Nat) (d : DV) (_ : st.tm t = d) (h : Tri P N Y c st Q) : Tri P N Y c st Q := h
def turnSt (a : Al) (l L : List Sm) (i : Nat × Wt × Int × Bool) : St := ⟨0, tmOf [(1, sms l), (2, .ref 0 0), (5, sms L), (6, .ref 1 0), (7, int1 i.2.2.1), (8, bl i.2.2.2), (9, int1 i.1)], .of [(0, ⟨23, 4, alD a⟩), (1, ⟨25, 6, wtD i.2.1⟩)] 2⟩
def turnSt2 (a : Al) (l L : List Sm) (s : Wt) (on : Bool) (i : Nat) (k : Nat) : St := ⟨0, tmOf [(1, sms l), (2, .ref 0 0), (5, sms L), (6, .ref 1 0), (7, int1 i), (8, bl on), (9, int1 i), (12, int1 k)], .of [(0, ⟨23, 4, alD a⟩), (1, ⟨25, 6, wtD s⟩)] 2⟩
def TurnP (a : Al) (L : List Sm) (i : Nat × Wt × Int × Bool) : Prop := TurnI a L i.1 i.2.1 i.2.2.1 i.2.2.2
theorem fit_mem {l : List Sm} {k : Nat} (h : k < (fitL l).length) : sampleB ((fitL l).getD k sm0) = true := by
  have hm : (fitL l).getD k sm0 ∈ fitL l := by rw [List.getD_eq_getElem?_getD, List.getElem?_eq_getElem h]; exact List.getElem_mem h
  exact (List.mem_filter.1 hm).2
theorem fit_le (l : List Sm) : (fitL l).length ≤ l.length := List.length_filter_le _ _
theorem turn_at {a : Al} {l : List Sm} {i : Nat × Wt × Int × Bool} (h : TurnP a (fitL l) i) (hlt : i.1 < (fitL l).length) :
    ((takeT a i.2.1 ((fitL l).getD ((i.1 : Nat) : Int).toNat sm0)).2 = 0 ∧ TurnP a (fitL l) (i.1 + 1, (takeT a i.2.1 ((fitL l).getD ((i.1 : Nat) : Int).toNat sm0)).1, i.2.2.1, i.2.2.2)) ∨
    ((takeT a i.2.1 ((fitL l).getD ((i.1 : Nat) : Int).toNat sm0)).2 ≠ 0 ∧ TurnOk a (fitL l) i.1 i.2.2.1 i.2.2.2 (takeT a i.2.1 ((fitL l).getD ((i.1 : Nat) : Int).toNat sm0)).1 (takeT a i.2.1 ((fitL l).getD ((i.1 : Nat) : Int).toNat sm0)).2) := by
  rw [Int.toNat_natCast]
  exact turn_step h hlt (fit_mem hlt)
theorem turn_k {a : Al} {i n : Nat} {last : Int} (h1 : (1 ≤ a.kind ∧ a.kind ≤ 4) ∧ (-2147483647 ≤ a.low ∧ a.low ≤ 2147483647) ∧ (-2147483647 ≤ a.high ∧ a.high ≤ 2147483647) ∧ a.low ≤ a.high ∧ (a.kind = 4 → 0 ≤ a.low) ∧ 1 ≤ a.hold ∧ a.hold ≤ 1000)
    (hf : a.hold ≤ (i : Int) - last) (hlo : -1 ≤ last) (hi : i < n) (hn : n * 24 ≤ 140737488355328) : IntKind.i64.wrap (IntKind.i64.wrap ((i : Int) + 1) - a.hold) = ((i + 1 - a.hold.toNat : Nat) : Int) := by
  rw [wrapI (x := (i : Int) + 1) (by omega) (by omega), wrapI (by omega) (by omega)]
  omega
theorem turn_bad {W last hold : Int} {on : Bool} {i n : Nat} (hw : (on = false ∧ W = 1) ∨ (on = true ∧ W = 2)) (hf : hold ≤ (i : Int) - last) (hlo : -1 ≤ last) (hhi : last < i) (hi : i < n) (hn : n * 24 ≤ 140737488355328)
    (h : (bif bif bif W != 1 then W != 2 else false then true else (W == 1) == on then true else decide (IntKind.i64.wrap ((i : Int) - last) < hold)) = true) : False := by
  rw [wrapI (x := (i : Int) - last) (by omega) (by omega)] at h
  have : ¬ (i : Int) - last < hold := by omega
  rcases hw with ⟨rfl, rfl⟩ | ⟨rfl, rfl⟩ <;> simp at h <;> omega
theorem says_bad {a : Al} {on : Bool} {m : Sm} (hm : m.has = true ∧ saysB a on m.value = true)
    (h : (bif bif bif !m.has then true else bif a.kind == 1 then bif bif !on then decide (m.value < a.high) else false then true else bif !!on then decide (a.low < m.value) else false else false then true else bif a.kind == 2 then bif bif !on then decide (a.low < m.value) else false then true else bif !!on then decide (m.value < a.high) else false else false then true else bif a.kind == 3 then (!on) == bif decide (a.low ≤ m.value) then decide (m.value ≤ a.high) else false else false) = true) : False := by
  obtain ⟨hh, hs⟩ := hm
  rw [hh] at h
  unfold saysB at hs
  by_cases h1 : a.kind = 1
  · rw [h1] at h hs
    cases on <;> simp at h hs <;> omega
  · by_cases h2 : a.kind = 2
    · rw [h2] at h hs
      cases on <;> simp at h hs <;> omega
    · by_cases h3 : a.kind = 3
      · rw [h3] at h hs
        cases on <;> simp at h hs <;> omega
      · have e1 : (a.kind == 1) = false := by simpa using h1
        have e2 : (a.kind == 2) = false := by simpa using h2
        have e3 : (a.kind == 3) = false := by simpa using h3
        rw [e1, e2, e3] at h
        simp at h
theorem turn_end {on : Bool} {s : Wt} {L : List Sm} {i : Nat} (ho : s.on = !on) (ha : s.acked = false) (hs : on = false → s.since = (L.getD i sm0).tick)
    (h : (bif bif s.on != !on then true else s.acked then true else bif !on then s.since != (L.getD ((i : Nat) : Int).toNat sm0).tick else false) = true) : False := by
  rw [Int.toNat_natCast, ho, ha] at h
  cases on
  · rw [hs rfl] at h; simp at h
  · simp at h
theorem turn_notes {a : Al} {l : List Sm} {i : Nat × Wt × Int × Bool} (h : TurnP a (fitL l) i) (hge : (fitL l).length ≤ i.1) :
    (bif decide (0 ≤ i.2.2.1) == decide (0 < (((List.map ntD (playT a l).2).length : Nat) : Int)) then true else false) = true := by
  have e : i.1 = (fitL l).length := Nat.le_antisymm h.le hge
  have hn := h.notes
  rw [e] at hn
  rw [List.length_map, play_fit, playT]
  by_cases hl : 0 ≤ i.2.2.1
  · have := List.length_pos_iff.2 (hn.1 hl)
    simp [hl]; omega
  · have : (playK a (fitL l) (fitL l).length).2 = [] := Classical.byContradiction fun hc => hl (hn.2 hc)
    simp [hl, this]
theorem idx1 {k i : Nat} {L : List Sm} (h : decide ((k : Int) ≤ (i : Int)) = true) (hlt : i < L.length) : (k : Int) < ((L.map smD).length : Nat) := by
  have := of_decide_eq_true h
  rw [List.length_map]; omega
theorem idx2 {k i : Nat} {L : List Sm} (h : decide ((k : Int) ≤ (i : Int)) = true) (hlt : i < L.length) : ((k : Nat) : Int).toNat < L.length := by
  have := of_decide_eq_true h
  omega
theorem idx3 {i : Nat} {L : List Sm} (hlt : i < L.length) : (i : Int) < ((L.map smD).length : Nat) := by
  rw [List.length_map]; omega
theorem idx4 {i : Nat} {L : List Sm} (hlt : i < L.length) : ((i : Nat) : Int).toNat < L.length := by
  omega
attribute [local irreducible] sampleB fitK rowS playT fitL takeT
set_option maxRecDepth 20000 in
set_option maxHeartbeats 2000000 in
theorem turns6_1 (a : Al) (S : List Sm) (hS : S.length * 24 ≤ 140737488355328) (hf : fitA a = true) : DPure Tryd.prog 6 [.agg (alD a), sms S] (bl true) := by
  have h1 := fit_iff.1 hf
  have h15 := fit15_D a
  rw [hf] at h15
  have hp := play16_D a S hf hS
  have hlen := fit_le S
  refine DFun.data (DFun.body Tryd.func6 rfl (by kernel_rfl) ?_)
  repeat' (first | with_reducible rfl | ((conv => whnf); first | refine And.intro ?_ ?_ | (intro h; first | exact Bool.noConfusion h | with_reducible exact h | (refine not_t h ?_; rfl) | (refine not_f h ?_; rfl) | (have ht : true = true := h; clear ht h) | skip) | ((with_reducible refine DWl.mark ?_); repeat' (first | refine DWl.cons ?_ ?_ | exact DWl.nil | exact DW.same _ rfl | exact DW.ref _ _ _ rfl | exact DW.arr _ _ _ rfl | exact DW.sub _ _ _ _ rfl | exact DW.nilLst _ | refine DW.aggl ?_ | refine DW.tupl ?_ | refine DW.clol ?_ ?_ | refine DW.int ?_ | refine DW.bool ?_ | refine DW.str ?_)) | ((with_reducible refine SCall.mark ?_); first | refine SCall.data (h15) rfl rfl ?_ | refine SCall.scal (h15) rfl rfl ?_ | refine SCall.data (fit23_D S hS) rfl rfl ?_ | refine SCall.scal (fit23_D S hS) rfl rfl ?_ | refine SCall.data (take13_D _ _ _ hf ?_) rfl rfl ?_ | refine SCall.scal (take13_D _ _ _ hf ?_) rfl rfl ?_ | refine SCall.data (hp) rfl rfl ?_ | refine SCall.scal (hp) rfl rfl ?_ | refine SCall.data (awake12_D) rfl rfl ?_ | refine SCall.scal (awake12_D) rfl rfl ?_) | ((with_reducible refine PCall.mark ?_); first | refine PCall.mk (h15) rfl rfl ?_ | refine PCall.mk (fit23_D S hS) rfl rfl ?_ | refine PCall.mk (take13_D _ _ _ hf ?_) rfl rfl ?_ | refine PCall.mk (hp) rfl rfl ?_ | refine PCall.mk (awake12_D) rfl rfl ?_) | ((with_reducible refine GCall.mark ?_); first | refine GCall.data (fun _ => h15) rfl rfl ?_ | refine GCall.scal (fun _ => h15) rfl rfl ?_ | refine GCall.data (fun _ => fit23_D S hS) rfl rfl ?_ | refine GCall.scal (fun _ => fit23_D S hS) rfl rfl ?_ | refine GCall.data (fun _ => take13_D _ _ _ hf ?_) rfl rfl ?_ | refine GCall.scal (fun _ => take13_D _ _ _ hf ?_) rfl rfl ?_ | refine GCall.data (fun _ => hp) rfl rfl ?_ | refine GCall.scal (fun _ => hp) rfl rfl ?_ | refine GCall.data (fun _ => awake12_D) rfl rfl ?_ | refine GCall.scal (fun _ => awake12_D) rfl rfl ?_) | ((with_reducible refine MCall.mark ?_); first | refine MCall.data (fun _ => h15) rfl rfl ?_ | refine MCall.plain (PCall.mk (h15) rfl rfl ?_) | refine MCall.data (fun _ => fit23_D S hS) rfl rfl ?_ | refine MCall.plain (PCall.mk (fit23_D S hS) rfl rfl ?_) | refine MCall.data (fun _ => take13_D _ _ _ hf ?_) rfl rfl ?_ | refine MCall.plain (PCall.mk (take13_D _ _ _ hf ?_) rfl rfl ?_) | refine MCall.data (fun _ => hp) rfl rfl ?_ | refine MCall.plain (PCall.mk (hp) rfl rfl ?_) | refine MCall.data (fun _ => awake12_D) rfl rfl ?_ | refine MCall.plain (PCall.mk (awake12_D) rfl rfl ?_)) | ((with_reducible refine Tri.mark ?_); first | (refine Tri.at (7) (int1 (-1)) (by rfl) ?_; refine Tri.loop (turnSt a S (fitL S)) (TurnP a (fitL S)) (fun i => (fitL S).length - i.1) (0, wt0, -1, false) (by kernel_rfl) (Weak.list [(0, some 0), (1, some 1)] [] (by kernel_rfl) ?_ ?_) ?_ ?_) | (refine Tri.tree [2] (MT.mv true 0 (MT.mv true 1 (MT.mv true 2 (MT.mv true 3 (MT.mv true 4 (MT.mv true 5 (MT.two 6 (MT.mv true 7 (MT.mv true 8 (MT.mv true 9 (MT.mv false 10 (MT.mv false 11 (MT.mv true 12 MT.done)))))) 10 (MT.mv false 6 (MT.mv true 7 (MT.mv true 8 (MT.mv true 9 (MT.mv false 11 (MT.mv true 12 MT.done))))))))))))) ?_ (by kernel_rfl) ?_; rfl)) | refine dloadE_map (sm0) ?_ ?_ | refine dcell_ok rfl ?_ | refine AppC.new ?_))
  all_goals first | (with_reducible refine enters_mark ?_; kernel_rfl) | (with_reducible refine boolT_mark ?_; kernel_rfl) | rfl | trivial | assumption | exact Nat.le_of_ble_eq_true rfl | (show entersB _ _ = true; kernel_rfl) | exact DW.same _ rfl | exact DW.ref _ _ _ rfl | exact DW.arr _ _ _ rfl | refine DW.int ?_ | refine dvb ?_ | refine dvi ?_ | exact OW.cells rfl rfl (DWl.same rfl) | exact Nat.zero_le _ | omega | skip
  all_goals repeat' (first | refine OW.cells rfl rfl ?_ | exact DW.nilArr _ rfl | refine DWl.cons ?_ ?_ | exact DWl.nil | exact DW.same _ rfl | exact DW.ref _ _ _ rfl | exact DW.arr _ _ _ rfl | exact DW.sub _ _ _ _ rfl | exact DW.nilLst _ | refine DW.aggl ?_ | refine DW.tupl ?_ | refine DW.clol ?_ ?_)
  all_goals try ((conv => whnf); with_reducible first | refine Round.mark ?_ | refine Tells.mark ?_ | refine Retold.mark ?_)
  all_goals try first | (show (_ : Bool) = _; simp_all; done) | (show (_ : Int) < _; simp at *; omega) | (show (_ : Int) ≤ _; simp at *; omega) | (show (_ : Nat) < _; simp at *; omega) | (show (_ : Nat) ≤ _; simp at *; omega)
  · exact turn_zero hf
  · exact (state_iff.1 (TurnI.fit ‹TurnP a (fitL S) _›)).2.1
  · exact (state_iff.1 (TurnI.fit ‹TurnP a (fitL S) _›)).2.2.1
  · rename_i i hi e1
    have hlt := lt_of_test e1
    have e4 := (turn_at hi hlt).resolve_right (fun hc => hc.1 (by simpa using h))
    refine Round.go (fun _ => (i.1 + 1, (takeT a i.2.1 ((fitL S).getD ((i.1 : Nat) : Int).toNat sm0)).1, i.2.2.1, i.2.2.2)) e4.2 (by show (fitL S).length - (i.1 + 1) < (fitL S).length - i.1; omega) (Weak.list [(0, some 0), (1, some 1)] [] (by kernel_rfl) ?_ ?_)
    · repeat' (first | exact wsucc hlt (by omega) | exact DWl.eq (rfl : alD a = alD a) (alD_all _) | exact DWl.eq (rfl : wtD (takeT a i.2.1 ((fitL S).getD ((i.1 : Nat) : Int).toNat sm0)).1 = wtD (takeT a i.2.1 ((fitL S).getD ((i.1 : Nat) : Int).toNat sm0)).1) (wtD_all _) | exact DW.same _ rfl | exact DW.ref _ _ _ rfl | exact DW.arr _ _ _ rfl | exact OW.cells rfl rfl (DWl.same rfl) | refine OW.cells rfl rfl ?_ | refine DWl.cons ?_ ?_ | exact DWl.nil | exact DW.nilArr _ rfl | exact DW.nilLst _ | refine DW.clol ?_ ?_ | refine DW.aggl ?_ | refine DW.tupl ?_ | refine DW.int ?_ | refine DW.bool ?_ | refine DW.str ?_ | refine DW.arrE rfl ?_ | ((conv => whnf); first | refine And.intro ?_ ?_ | trivial))
    · repeat' (first | exact wsucc hlt (by omega) | exact DWl.eq (rfl : alD a = alD a) (alD_all _) | exact DWl.eq (rfl : wtD (takeT a i.2.1 ((fitL S).getD ((i.1 : Nat) : Int).toNat sm0)).1 = wtD (takeT a i.2.1 ((fitL S).getD ((i.1 : Nat) : Int).toNat sm0)).1) (wtD_all _) | exact DW.same _ rfl | exact DW.ref _ _ _ rfl | exact DW.arr _ _ _ rfl | exact OW.cells rfl rfl (DWl.same rfl) | refine OW.cells rfl rfl ?_ | refine DWl.cons ?_ ?_ | exact DWl.nil | exact DW.nilArr _ rfl | exact DW.nilLst _ | refine DW.clol ?_ ?_ | refine DW.aggl ?_ | refine DW.tupl ?_ | refine DW.int ?_ | refine DW.bool ?_ | refine DW.str ?_ | refine DW.arrE rfl ?_ | ((conv => whnf); first | refine And.intro ?_ ?_ | trivial))
  · rename_i i hi e1 e0
    have hlt := lt_of_test e1
    have e4 := (turn_at hi hlt).resolve_left (fun hc => by simp at e0; exact e0 hc.1)
    exact (turn_bad e4.2.what e4.2.far hi.lo hi.hi hlt (by omega) h).elim
  · rename_i i hi e1 e0
    have hlt := lt_of_test e1
    have e4 := (turn_at hi hlt).resolve_left (fun hc => by simp at e0; exact e0 hc.1)
    clear h e0 e1
    conv => whnf
    refine Tri.loop (turnSt2 a S (fitL S) (takeT a i.2.1 ((fitL S).getD ((i.1 : Nat) : Int).toNat sm0)).1 (!i.2.2.2) i.1) (fun k => (i.1 : Int) + 1 - a.hold ≤ k ∧ k ≤ i.1 + 1) (fun k => i.1 + 1 - k) (i.1 + 1 - a.hold.toNat) (by kernel_rfl) (Weak.list [(0, some 0), (1, some 1)] [] (by kernel_rfl) ?_ ?_) ?_ ?_
    · repeat' (first | exact turn_k h1 e4.2.far hi.lo hlt (by omega) | exact DWl.eq (rfl : alD a = alD a) (alD_all _) | exact DWl.eq (rfl : wtD (takeT a i.2.1 ((fitL S).getD ((i.1 : Nat) : Int).toNat sm0)).1 = wtD (takeT a i.2.1 ((fitL S).getD ((i.1 : Nat) : Int).toNat sm0)).1) (wtD_all _) | exact DW.same _ rfl | exact DW.ref _ _ _ rfl | exact DW.arr _ _ _ rfl | exact OW.cells rfl rfl (DWl.same rfl) | refine OW.cells rfl rfl ?_ | refine DWl.cons ?_ ?_ | exact DWl.nil | exact DW.nilArr _ rfl | exact DW.nilLst _ | refine DW.clol ?_ ?_ | refine DW.aggl ?_ | refine DW.tupl ?_ | refine DW.int ?_ | refine DW.bool ?_ | refine DW.str ?_ | refine DW.arrE rfl ?_ | ((conv => whnf); first | refine And.intro ?_ ?_ | trivial))
    · repeat' (first | exact turn_k h1 e4.2.far hi.lo hlt (by omega) | exact DWl.eq (rfl : alD a = alD a) (alD_all _) | exact DWl.eq (rfl : wtD (takeT a i.2.1 ((fitL S).getD ((i.1 : Nat) : Int).toNat sm0)).1 = wtD (takeT a i.2.1 ((fitL S).getD ((i.1 : Nat) : Int).toNat sm0)).1) (wtD_all _) | exact DW.same _ rfl | exact DW.ref _ _ _ rfl | exact DW.arr _ _ _ rfl | exact OW.cells rfl rfl (DWl.same rfl) | refine OW.cells rfl rfl ?_ | refine DWl.cons ?_ ?_ | exact DWl.nil | exact DW.nilArr _ rfl | exact DW.nilLst _ | refine DW.clol ?_ ?_ | refine DW.aggl ?_ | refine DW.tupl ?_ | refine DW.int ?_ | refine DW.bool ?_ | refine DW.str ?_ | refine DW.arrE rfl ?_ | ((conv => whnf); first | refine And.intro ?_ ?_ | trivial))
    · exact ⟨by omega, by omega⟩
    intro k hk
    repeat' (first | with_reducible rfl | ((conv => whnf); first | refine And.intro ?_ ?_ | (intro h; first | exact Bool.noConfusion h | with_reducible exact h | (refine not_t h ?_; rfl) | (refine not_f h ?_; rfl) | (have ht : true = true := h; clear ht h) | skip) | ((with_reducible refine DWl.mark ?_); repeat' (first | refine DWl.cons ?_ ?_ | exact DWl.nil | exact DW.same _ rfl | exact DW.ref _ _ _ rfl | exact DW.arr _ _ _ rfl | exact DW.sub _ _ _ _ rfl | exact DW.nilLst _ | refine DW.aggl ?_ | refine DW.tupl ?_ | refine DW.clol ?_ ?_ | refine DW.int ?_ | refine DW.bool ?_ | refine DW.str ?_)) | ((with_reducible refine SCall.mark ?_); first | refine SCall.data (awake12_D) rfl rfl ?_ | refine SCall.scal (awake12_D) rfl rfl ?_) | ((with_reducible refine PCall.mark ?_); first | refine PCall.mk (awake12_D) rfl rfl ?_) | ((with_reducible refine GCall.mark ?_); first | refine GCall.data (fun _ => awake12_D) rfl rfl ?_ | refine GCall.scal (fun _ => awake12_D) rfl rfl ?_) | ((with_reducible refine MCall.mark ?_); first | refine MCall.data (fun _ => awake12_D) rfl rfl ?_ | refine MCall.plain (PCall.mk (awake12_D) rfl rfl ?_)) | refine dloadE_map (sm0) ?_ ?_ | refine dcell_ok rfl ?_ | refine AppC.new ?_))
    all_goals try ((conv => whnf); with_reducible refine Round.mark ?_)
    all_goals try first | ((with_reducible show isBoolT _ _ = true); rfl) | exact idx3 hlt | exact idx4 hlt | exact idx1 (by assumption) hlt | exact idx2 (by assumption) hlt | exact Int.natCast_nonneg _ | ((with_reducible show slElem _ _ = _); rfl) | ((with_reducible show (_ : Bool) = true); simpa using h) | ((with_reducible show Option.isSome (slElem _ _) = true); kernel_rfl) | ((with_reducible show slElem _ _ = some _); kernel_rfl) | ((with_reducible refine enters_mark ?_); kernel_rfl) | (with_reducible assumption) | ((with_reducible show List.all _ DV.one = true); rfl) | ((with_reducible show (_ : Nat) = _); rfl) | ((with_reducible show (_ == true) = true); simpa using h) | ((with_reducible show (_ : Nat) ≤ _); exact Nat.le_of_ble_eq_true rfl) | ((with_reducible show (_ : Int) ≤ _); first | omega | decide) | ((with_reducible show (_ : Int) < _); first | omega | decide) | ((with_reducible show (_ : Nat) < _); omega) | ((with_reducible show (_ : Nat) ≤ _); omega)
    · have hki := of_decide_eq_true ‹decide ((k : Int) ≤ (i.1 : Int)) = true›
      exact (says_bad (e4.2.says k hk.1 (by omega)) h).elim
    · have hki := of_decide_eq_true ‹decide ((k : Int) ≤ (i.1 : Int)) = true›
      refine Round.go (· + 1) ⟨by omega, by omega⟩ (by show i.1 + 1 - (k + 1) < i.1 + 1 - k; omega) (Weak.list [(0, some 0), (1, some 1)] [] (by kernel_rfl) ?_ ?_)
      · repeat' (first | exact wsucc (n := i.1 + 1) (by omega) (by omega) | exact DWl.eq (rfl : alD a = alD a) (alD_all _) | exact DWl.eq (rfl : wtD (takeT a i.2.1 ((fitL S).getD ((i.1 : Nat) : Int).toNat sm0)).1 = wtD (takeT a i.2.1 ((fitL S).getD ((i.1 : Nat) : Int).toNat sm0)).1) (wtD_all _) | exact DW.same _ rfl | exact DW.ref _ _ _ rfl | exact DW.arr _ _ _ rfl | exact OW.cells rfl rfl (DWl.same rfl) | refine OW.cells rfl rfl ?_ | refine DWl.cons ?_ ?_ | exact DWl.nil | exact DW.nilArr _ rfl | exact DW.nilLst _ | refine DW.clol ?_ ?_ | refine DW.aggl ?_ | refine DW.tupl ?_ | refine DW.int ?_ | refine DW.bool ?_ | refine DW.str ?_ | refine DW.arrE rfl ?_ | ((conv => whnf); first | refine And.intro ?_ ?_ | trivial))
      · repeat' (first | exact wsucc (n := i.1 + 1) (by omega) (by omega) | exact DWl.eq (rfl : alD a = alD a) (alD_all _) | exact DWl.eq (rfl : wtD (takeT a i.2.1 ((fitL S).getD ((i.1 : Nat) : Int).toNat sm0)).1 = wtD (takeT a i.2.1 ((fitL S).getD ((i.1 : Nat) : Int).toNat sm0)).1) (wtD_all _) | exact DW.same _ rfl | exact DW.ref _ _ _ rfl | exact DW.arr _ _ _ rfl | exact OW.cells rfl rfl (DWl.same rfl) | refine OW.cells rfl rfl ?_ | refine DWl.cons ?_ ?_ | exact DWl.nil | exact DW.nilArr _ rfl | exact DW.nilLst _ | refine DW.clol ?_ ?_ | refine DW.aggl ?_ | refine DW.tupl ?_ | refine DW.int ?_ | refine DW.bool ?_ | refine DW.str ?_ | refine DW.arrE rfl ?_ | ((conv => whnf); first | refine And.intro ?_ ?_ | trivial))
    · exact (turn_end e4.2.on_eq e4.2.acked e4.2.since h).elim
    · refine Round.go (fun _ => (i.1 + 1, (takeT a i.2.1 ((fitL S).getD ((i.1 : Nat) : Int).toNat sm0)).1, (i.1 : Int), !i.2.2.2)) e4.2.next (by show (fitL S).length - (i.1 + 1) < (fitL S).length - i.1; omega) (Weak.list [(0, some 0), (1, some 1)] [] (by kernel_rfl) ?_ ?_)
      · repeat' (first | exact wsucc hlt (by omega) | exact DWl.eq (rfl : alD a = alD a) (alD_all _) | exact DWl.eq (rfl : wtD (takeT a i.2.1 ((fitL S).getD ((i.1 : Nat) : Int).toNat sm0)).1 = wtD (takeT a i.2.1 ((fitL S).getD ((i.1 : Nat) : Int).toNat sm0)).1) (wtD_all _) | exact DW.same _ rfl | exact DW.ref _ _ _ rfl | exact DW.arr _ _ _ rfl | exact OW.cells rfl rfl (DWl.same rfl) | refine OW.cells rfl rfl ?_ | refine DWl.cons ?_ ?_ | exact DWl.nil | exact DW.nilArr _ rfl | exact DW.nilLst _ | refine DW.clol ?_ ?_ | refine DW.aggl ?_ | refine DW.tupl ?_ | refine DW.int ?_ | refine DW.bool ?_ | refine DW.str ?_ | refine DW.arrE rfl ?_ | ((conv => whnf); first | refine And.intro ?_ ?_ | trivial))
      · repeat' (first | exact wsucc hlt (by omega) | exact DWl.eq (rfl : alD a = alD a) (alD_all _) | exact DWl.eq (rfl : wtD (takeT a i.2.1 ((fitL S).getD ((i.1 : Nat) : Int).toNat sm0)).1 = wtD (takeT a i.2.1 ((fitL S).getD ((i.1 : Nat) : Int).toNat sm0)).1) (wtD_all _) | exact DW.same _ rfl | exact DW.ref _ _ _ rfl | exact DW.arr _ _ _ rfl | exact OW.cells rfl rfl (DWl.same rfl) | refine OW.cells rfl rfl ?_ | refine DWl.cons ?_ ?_ | exact DWl.nil | exact DW.nilArr _ rfl | exact DW.nilLst _ | refine DW.clol ?_ ?_ | refine DW.aggl ?_ | refine DW.tupl ?_ | refine DW.int ?_ | refine DW.bool ?_ | refine DW.str ?_ | refine DW.arrE rfl ?_ | ((conv => whnf); first | refine And.intro ?_ ?_ | trivial))
  · exact (state_iff.1 (TurnI.fit ‹TurnP a (fitL S) _›)).2.1
  · exact (state_iff.1 (TurnI.fit ‹TurnP a (fitL S) _›)).2.2.1
  · rename_i i hi e1
    have hlt := lt_of_test e1
    have e4 := (turn_at hi hlt).resolve_right (fun hc => hc.1 (by simpa using h))
    refine Round.go (fun _ => (i.1 + 1, (takeT a i.2.1 ((fitL S).getD ((i.1 : Nat) : Int).toNat sm0)).1, i.2.2.1, i.2.2.2)) e4.2 (by show (fitL S).length - (i.1 + 1) < (fitL S).length - i.1; omega) (Weak.list [(0, some 0), (1, some 1)] [] (by kernel_rfl) ?_ ?_)
    · repeat' (first | exact wsucc hlt (by omega) | exact DWl.eq (rfl : alD a = alD a) (alD_all _) | exact DWl.eq (rfl : wtD (takeT a i.2.1 ((fitL S).getD ((i.1 : Nat) : Int).toNat sm0)).1 = wtD (takeT a i.2.1 ((fitL S).getD ((i.1 : Nat) : Int).toNat sm0)).1) (wtD_all _) | exact DW.same _ rfl | exact DW.ref _ _ _ rfl | exact DW.arr _ _ _ rfl | exact OW.cells rfl rfl (DWl.same rfl) | refine OW.cells rfl rfl ?_ | refine DWl.cons ?_ ?_ | exact DWl.nil | exact DW.nilArr _ rfl | exact DW.nilLst _ | refine DW.clol ?_ ?_ | refine DW.aggl ?_ | refine DW.tupl ?_ | refine DW.int ?_ | refine DW.bool ?_ | refine DW.str ?_ | refine DW.arrE rfl ?_ | ((conv => whnf); first | refine And.intro ?_ ?_ | trivial))
    · repeat' (first | exact wsucc hlt (by omega) | exact DWl.eq (rfl : alD a = alD a) (alD_all _) | exact DWl.eq (rfl : wtD (takeT a i.2.1 ((fitL S).getD ((i.1 : Nat) : Int).toNat sm0)).1 = wtD (takeT a i.2.1 ((fitL S).getD ((i.1 : Nat) : Int).toNat sm0)).1) (wtD_all _) | exact DW.same _ rfl | exact DW.ref _ _ _ rfl | exact DW.arr _ _ _ rfl | exact OW.cells rfl rfl (DWl.same rfl) | refine OW.cells rfl rfl ?_ | refine DWl.cons ?_ ?_ | exact DWl.nil | exact DW.nilArr _ rfl | exact DW.nilLst _ | refine DW.clol ?_ ?_ | refine DW.aggl ?_ | refine DW.tupl ?_ | refine DW.int ?_ | refine DW.bool ?_ | refine DW.str ?_ | refine DW.arrE rfl ?_ | ((conv => whnf); first | refine And.intro ?_ ?_ | trivial))
  · rename_i i hi e1 e0
    have hlt := lt_of_test e1
    have e4 := (turn_at hi hlt).resolve_left (fun hc => by simp at e0; exact e0 hc.1)
    exact (turn_bad e4.2.what e4.2.far hi.lo hi.hi hlt (by omega) h).elim
  · rename_i i hi e1 e0
    have hlt := lt_of_test e1
    have e4 := (turn_at hi hlt).resolve_left (fun hc => by simp at e0; exact e0 hc.1)
    clear h e0 e1
    conv => whnf
    refine Tri.loop (turnSt2 a S (fitL S) (takeT a i.2.1 ((fitL S).getD ((i.1 : Nat) : Int).toNat sm0)).1 (!i.2.2.2) i.1) (fun k => (i.1 : Int) + 1 - a.hold ≤ k ∧ k ≤ i.1 + 1) (fun k => i.1 + 1 - k) (i.1 + 1 - a.hold.toNat) (by kernel_rfl) (Weak.list [(0, some 0), (1, some 1)] [] (by kernel_rfl) ?_ ?_) ?_ ?_
    · repeat' (first | exact turn_k h1 e4.2.far hi.lo hlt (by omega) | exact DWl.eq (rfl : alD a = alD a) (alD_all _) | exact DWl.eq (rfl : wtD (takeT a i.2.1 ((fitL S).getD ((i.1 : Nat) : Int).toNat sm0)).1 = wtD (takeT a i.2.1 ((fitL S).getD ((i.1 : Nat) : Int).toNat sm0)).1) (wtD_all _) | exact DW.same _ rfl | exact DW.ref _ _ _ rfl | exact DW.arr _ _ _ rfl | exact OW.cells rfl rfl (DWl.same rfl) | refine OW.cells rfl rfl ?_ | refine DWl.cons ?_ ?_ | exact DWl.nil | exact DW.nilArr _ rfl | exact DW.nilLst _ | refine DW.clol ?_ ?_ | refine DW.aggl ?_ | refine DW.tupl ?_ | refine DW.int ?_ | refine DW.bool ?_ | refine DW.str ?_ | refine DW.arrE rfl ?_ | ((conv => whnf); first | refine And.intro ?_ ?_ | trivial))
    · repeat' (first | exact turn_k h1 e4.2.far hi.lo hlt (by omega) | exact DWl.eq (rfl : alD a = alD a) (alD_all _) | exact DWl.eq (rfl : wtD (takeT a i.2.1 ((fitL S).getD ((i.1 : Nat) : Int).toNat sm0)).1 = wtD (takeT a i.2.1 ((fitL S).getD ((i.1 : Nat) : Int).toNat sm0)).1) (wtD_all _) | exact DW.same _ rfl | exact DW.ref _ _ _ rfl | exact DW.arr _ _ _ rfl | exact OW.cells rfl rfl (DWl.same rfl) | refine OW.cells rfl rfl ?_ | refine DWl.cons ?_ ?_ | exact DWl.nil | exact DW.nilArr _ rfl | exact DW.nilLst _ | refine DW.clol ?_ ?_ | refine DW.aggl ?_ | refine DW.tupl ?_ | refine DW.int ?_ | refine DW.bool ?_ | refine DW.str ?_ | refine DW.arrE rfl ?_ | ((conv => whnf); first | refine And.intro ?_ ?_ | trivial))
    · exact ⟨by omega, by omega⟩
    intro k hk
    repeat' (first | with_reducible rfl | ((conv => whnf); first | refine And.intro ?_ ?_ | (intro h; first | exact Bool.noConfusion h | with_reducible exact h | (refine not_t h ?_; rfl) | (refine not_f h ?_; rfl) | (have ht : true = true := h; clear ht h) | skip) | ((with_reducible refine DWl.mark ?_); repeat' (first | refine DWl.cons ?_ ?_ | exact DWl.nil | exact DW.same _ rfl | exact DW.ref _ _ _ rfl | exact DW.arr _ _ _ rfl | exact DW.sub _ _ _ _ rfl | exact DW.nilLst _ | refine DW.aggl ?_ | refine DW.tupl ?_ | refine DW.clol ?_ ?_ | refine DW.int ?_ | refine DW.bool ?_ | refine DW.str ?_)) | ((with_reducible refine SCall.mark ?_); first | refine SCall.data (awake12_D) rfl rfl ?_ | refine SCall.scal (awake12_D) rfl rfl ?_) | ((with_reducible refine PCall.mark ?_); first | refine PCall.mk (awake12_D) rfl rfl ?_) | ((with_reducible refine GCall.mark ?_); first | refine GCall.data (fun _ => awake12_D) rfl rfl ?_ | refine GCall.scal (fun _ => awake12_D) rfl rfl ?_) | ((with_reducible refine MCall.mark ?_); first | refine MCall.data (fun _ => awake12_D) rfl rfl ?_ | refine MCall.plain (PCall.mk (awake12_D) rfl rfl ?_)) | refine dloadE_map (sm0) ?_ ?_ | refine dcell_ok rfl ?_ | refine AppC.new ?_))
    all_goals try ((conv => whnf); with_reducible refine Round.mark ?_)
    all_goals try first | ((with_reducible show isBoolT _ _ = true); rfl) | exact idx3 hlt | exact idx4 hlt | exact idx1 (by assumption) hlt | exact idx2 (by assumption) hlt | exact Int.natCast_nonneg _ | ((with_reducible show slElem _ _ = _); rfl) | ((with_reducible show (_ : Bool) = true); simpa using h) | ((with_reducible show Option.isSome (slElem _ _) = true); kernel_rfl) | ((with_reducible show slElem _ _ = some _); kernel_rfl) | ((with_reducible refine enters_mark ?_); kernel_rfl) | (with_reducible assumption) | ((with_reducible show List.all _ DV.one = true); rfl) | ((with_reducible show (_ : Nat) = _); rfl) | ((with_reducible show (_ == true) = true); simpa using h) | ((with_reducible show (_ : Nat) ≤ _); exact Nat.le_of_ble_eq_true rfl) | ((with_reducible show (_ : Int) ≤ _); first | omega | decide) | ((with_reducible show (_ : Int) < _); first | omega | decide) | ((with_reducible show (_ : Nat) < _); omega) | ((with_reducible show (_ : Nat) ≤ _); omega)
    · have hki := of_decide_eq_true ‹decide ((k : Int) ≤ (i.1 : Int)) = true›
      exact (says_bad (e4.2.says k hk.1 (by omega)) h).elim
    · have hki := of_decide_eq_true ‹decide ((k : Int) ≤ (i.1 : Int)) = true›
      refine Round.go (· + 1) ⟨by omega, by omega⟩ (by show i.1 + 1 - (k + 1) < i.1 + 1 - k; omega) (Weak.list [(0, some 0), (1, some 1)] [] (by kernel_rfl) ?_ ?_)
      · repeat' (first | exact wsucc (n := i.1 + 1) (by omega) (by omega) | exact DWl.eq (rfl : alD a = alD a) (alD_all _) | exact DWl.eq (rfl : wtD (takeT a i.2.1 ((fitL S).getD ((i.1 : Nat) : Int).toNat sm0)).1 = wtD (takeT a i.2.1 ((fitL S).getD ((i.1 : Nat) : Int).toNat sm0)).1) (wtD_all _) | exact DW.same _ rfl | exact DW.ref _ _ _ rfl | exact DW.arr _ _ _ rfl | exact OW.cells rfl rfl (DWl.same rfl) | refine OW.cells rfl rfl ?_ | refine DWl.cons ?_ ?_ | exact DWl.nil | exact DW.nilArr _ rfl | exact DW.nilLst _ | refine DW.clol ?_ ?_ | refine DW.aggl ?_ | refine DW.tupl ?_ | refine DW.int ?_ | refine DW.bool ?_ | refine DW.str ?_ | refine DW.arrE rfl ?_ | ((conv => whnf); first | refine And.intro ?_ ?_ | trivial))
      · repeat' (first | exact wsucc (n := i.1 + 1) (by omega) (by omega) | exact DWl.eq (rfl : alD a = alD a) (alD_all _) | exact DWl.eq (rfl : wtD (takeT a i.2.1 ((fitL S).getD ((i.1 : Nat) : Int).toNat sm0)).1 = wtD (takeT a i.2.1 ((fitL S).getD ((i.1 : Nat) : Int).toNat sm0)).1) (wtD_all _) | exact DW.same _ rfl | exact DW.ref _ _ _ rfl | exact DW.arr _ _ _ rfl | exact OW.cells rfl rfl (DWl.same rfl) | refine OW.cells rfl rfl ?_ | refine DWl.cons ?_ ?_ | exact DWl.nil | exact DW.nilArr _ rfl | exact DW.nilLst _ | refine DW.clol ?_ ?_ | refine DW.aggl ?_ | refine DW.tupl ?_ | refine DW.int ?_ | refine DW.bool ?_ | refine DW.str ?_ | refine DW.arrE rfl ?_ | ((conv => whnf); first | refine And.intro ?_ ?_ | trivial))
    · exact (turn_end e4.2.on_eq e4.2.acked e4.2.since h).elim
    · refine Round.go (fun _ => (i.1 + 1, (takeT a i.2.1 ((fitL S).getD ((i.1 : Nat) : Int).toNat sm0)).1, (i.1 : Int), !i.2.2.2)) e4.2.next (by show (fitL S).length - (i.1 + 1) < (fitL S).length - i.1; omega) (Weak.list [(0, some 0), (1, some 1)] [] (by kernel_rfl) ?_ ?_)
      · repeat' (first | exact wsucc hlt (by omega) | exact DWl.eq (rfl : alD a = alD a) (alD_all _) | exact DWl.eq (rfl : wtD (takeT a i.2.1 ((fitL S).getD ((i.1 : Nat) : Int).toNat sm0)).1 = wtD (takeT a i.2.1 ((fitL S).getD ((i.1 : Nat) : Int).toNat sm0)).1) (wtD_all _) | exact DW.same _ rfl | exact DW.ref _ _ _ rfl | exact DW.arr _ _ _ rfl | exact OW.cells rfl rfl (DWl.same rfl) | refine OW.cells rfl rfl ?_ | refine DWl.cons ?_ ?_ | exact DWl.nil | exact DW.nilArr _ rfl | exact DW.nilLst _ | refine DW.clol ?_ ?_ | refine DW.aggl ?_ | refine DW.tupl ?_ | refine DW.int ?_ | refine DW.bool ?_ | refine DW.str ?_ | refine DW.arrE rfl ?_ | ((conv => whnf); first | refine And.intro ?_ ?_ | trivial))
      · repeat' (first | exact wsucc hlt (by omega) | exact DWl.eq (rfl : alD a = alD a) (alD_all _) | exact DWl.eq (rfl : wtD (takeT a i.2.1 ((fitL S).getD ((i.1 : Nat) : Int).toNat sm0)).1 = wtD (takeT a i.2.1 ((fitL S).getD ((i.1 : Nat) : Int).toNat sm0)).1) (wtD_all _) | exact DW.same _ rfl | exact DW.ref _ _ _ rfl | exact DW.arr _ _ _ rfl | exact OW.cells rfl rfl (DWl.same rfl) | refine OW.cells rfl rfl ?_ | refine DWl.cons ?_ ?_ | exact DWl.nil | exact DW.nilArr _ rfl | exact DW.nilLst _ | refine DW.clol ?_ ?_ | refine DW.aggl ?_ | refine DW.tupl ?_ | refine DW.int ?_ | refine DW.bool ?_ | refine DW.str ?_ | refine DW.arrE rfl ?_ | ((conv => whnf); first | refine And.intro ?_ ?_ | trivial))
  · rename_i i hi
    have hge := ge_of_test h

    conv => whnf
    exact Tells.mk (DW.bool (turn_notes hi hge))
set_option maxRecDepth 20000 in
theorem turns6_0 (a : Al) (S : List Sm) (hf : fitA a = false) : DPure Tryd.prog 6 [.agg (alD a), sms S] (bl true) := by
  have h15 := fit15_D a
  rw [hf] at h15
  refine DFun.data (DFun.body Tryd.func6 rfl (by kernel_rfl) ?_)
  repeat' (first | with_reducible rfl | ((conv => whnf); first | refine And.intro ?_ ?_ | (intro h; first | exact Bool.noConfusion h | with_reducible exact h | (refine not_t h ?_; rfl) | (refine not_f h ?_; rfl) | (have ht : true = true := h; clear ht h) | skip) | ((with_reducible refine DWl.mark ?_); repeat' (first | refine DWl.cons ?_ ?_ | exact DWl.nil | exact DW.same _ rfl | exact DW.ref _ _ _ rfl | exact DW.arr _ _ _ rfl | exact DW.sub _ _ _ _ rfl | exact DW.nilLst _ | refine DW.aggl ?_ | refine DW.tupl ?_ | refine DW.clol ?_ ?_ | refine DW.int ?_ | refine DW.bool ?_ | refine DW.str ?_)) | ((with_reducible refine SCall.mark ?_); first | refine SCall.data (h15) rfl rfl ?_ | refine SCall.scal (h15) rfl rfl ?_ | refine SCall.data (awake12_D) rfl rfl ?_ | refine SCall.scal (awake12_D) rfl rfl ?_) | ((with_reducible refine PCall.mark ?_); first | refine PCall.mk (h15) rfl rfl ?_ | refine PCall.mk (awake12_D) rfl rfl ?_) | ((with_reducible refine GCall.mark ?_); first | refine GCall.data (fun _ => h15) rfl rfl ?_ | refine GCall.scal (fun _ => h15) rfl rfl ?_ | refine GCall.data (fun _ => awake12_D) rfl rfl ?_ | refine GCall.scal (fun _ => awake12_D) rfl rfl ?_) | ((with_reducible refine MCall.mark ?_); first | refine MCall.data (fun _ => h15) rfl rfl ?_ | refine MCall.plain (PCall.mk (h15) rfl rfl ?_) | refine MCall.data (fun _ => awake12_D) rfl rfl ?_ | refine MCall.plain (PCall.mk (awake12_D) rfl rfl ?_)) | refine dcell_ok rfl ?_ | refine AppC.new ?_))
  all_goals first | (with_reducible refine enters_mark ?_; kernel_rfl) | (with_reducible refine boolT_mark ?_; kernel_rfl) | rfl | trivial | assumption | exact Nat.le_of_ble_eq_true rfl | (show entersB _ _ = true; kernel_rfl) | exact DW.same _ rfl | exact DW.ref _ _ _ rfl | exact DW.arr _ _ _ rfl | refine DW.int ?_ | refine dvb ?_ | refine dvi ?_ | exact OW.cells rfl rfl (DWl.same rfl) | exact Nat.zero_le _ | omega | skip
  all_goals repeat' (first | refine OW.cells rfl rfl ?_ | exact DW.nilArr _ rfl | refine DWl.cons ?_ ?_ | exact DWl.nil | exact DW.same _ rfl | exact DW.ref _ _ _ rfl | exact DW.arr _ _ _ rfl | exact DW.sub _ _ _ _ rfl | exact DW.nilLst _ | refine DW.aggl ?_ | refine DW.tupl ?_ | refine DW.clol ?_ ?_)
  all_goals try ((conv => whnf); with_reducible first | refine Round.mark ?_ | refine Tells.mark ?_ | refine Retold.mark ?_)
  all_goals try first | (show (_ : Bool) = _; simp_all; done) | (show (_ : Int) < _; simp at *; omega) | (show (_ : Int) ≤ _; simp at *; omega) | (show (_ : Nat) < _; simp at *; omega) | (show (_ : Nat) ≤ _; simp at *; omega)
  conv => whnf
  exact Tells.mk (DW.bool rfl)
theorem turns6_D (a : Al) (S : List Sm) (hS : S.length * 24 ≤ 140737488355328) : DPure Tryd.prog 6 [.agg (alD a), sms S] (bl true) := by
  by_cases hf : fitA a = true
  · exact turns6_1 a S hS hf
  · exact turns6_0 a S (by simpa using hf)
end Go.Proofs.YtphgcgggbbcjgaaDoor
