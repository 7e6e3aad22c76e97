/-
  The data-level logic, part 32: the bytes of a text appended to a slice of bytes; results given up for good, at the end of a function, in steps.
-/
import Derived.Test.YtagfmppjlfhmeaaGreatDoorDp27
import Derived.Lib.AppendStr
import Derived.Laws.IdiomStrings
import Derived.Lib.BufferRead
import Derived.Calls
import Derived.Below
import Derived.Sort.Grow
import Derived.Deep.Draws

namespace Go.Dl
open Go Go.RowKit
def bytesD (x : ByteArray) : List DV := (Lib.strCells x).map .v
theorem bytesD_len (x : ByteArray) : (bytesD x).length = x.size := by rw [bytesD, List.length_map, Lib.strCells_length]
section
variable {P : Program} {s : Sto} {ρ : Operand → DV} {K : DV → Sto → Prop}
theorem esem_appStr [Inhabited GlobS] {x y : Operand} {t u : TypeId} {e : TypeId} {i : TypeInfo} (ht : P.underlying t = some (.slice e)) (hu : P.underlying u = some .string) (hi : P.info? e = some i) (hz : i.zero = some (.int .u8 0)) (hsz : i.size = 1) (hby : i.bytes = 1)
    {id n : Nat} {o : DObj} {str : ByteArray} (hx : ρ x = .arr id n) (hy : ρ y = .v (.string str)) (hob : s.ob id = some o) (he : o.elem = e) (hos : o.sz = 1) (hn : o.cells.length = n) (hlen : n + str.size ≤ 140737488355328)
    (hK : K (.arr s.nx (n + str.size)) ⟨upd (upd s.ob id none) s.nx (some ⟨e, 1, o.cells ++ bytesD str⟩), s.nx + 1⟩) (hm : Nat.beq e MAPT = false := by rfl) : ESem P s (.call ⟨.builtin .append, #[x, y], #[t, u]⟩) ρ K := by
  intro w0 F0 β w a hs hρ
  have hvx := hρ x
  have hvy := hρ y
  rw [hx] at hvx
  rw [hy] at hvy
  have hye : a.eval y = .string str := rv_v hvy
  have hrun : ∀ (v : Value) (w' : World), (∀ ty, (Builtin.append_ #[t, u] ty #[a.eval x, a.eval y]).run P w = .ok v w') → ∀ (o : Oper), o.op = .call ⟨.builtin .append, #[x, y], #[t, u]⟩ → (execOp a.eval o).run P w = .ok (.value v) w' := fun v w' hr o ho => by
    simp only [execOp, ho, resolve, invoke, builtin, Sem.run_bind, Sem.run_pure, Result.andThen_ok, List.map_toArray, List.map_cons, List.map_nil, hr]
  have hdrop := hs.drop id
  have hdso : ∀ i, ((upd s.ob id none) i).isSome = true → (s.ob i).isSome = true := fun i hi => by
    by_cases e : i = id
    · subst e; simp at hi
    · simpa only [upd_ne _ _ _ e] using hi
  have hcl : (Lib.strCells str).length = str.size := Lib.strCells_length str
  have hxs : ∀ (j : Nat) v, (Lib.strCells str)[j]? = some v → v.oneCell' = true := fun j v hv => by
    obtain ⟨b, _, rfl⟩ := List.mem_map.1 (show v ∈ str.data.toList.map fun b => Value.int .u8 b.toNat from List.mem_of_getElem? hv)
    rfl
  have hml : n + str.size ≤ maxLen := by simp only [maxLen]; omega
  -- a new block
  have grown : ∀ (old : Nat) (ovs : List Value), old < n + str.size → Pw w (Fr w0 F0 ⟨upd s.ob id none, s.nx⟩ β) β o.cells ovs →
      (∀ ty, (Builtin.append_ #[t, u] ty #[a.eval x, a.eval y]).run P w = .ok (.slice (some ⟨w.heap.size, 0, none⟩) (n + str.size) (grownCap w (n + str.size) old e)) (w.drew.alloc (.cells (ovs.toArray ++ (Lib.strCells str).toArray ++ Builtin.zeroCells (Value.int .u8 0).cells (grownCap w (n + str.size) old e - (n + str.size))) e))) →
      ∃ nx v w' d s' β', (nx = .value v ∨ (nx = .skip ∧ v = undef)) ∧ (∀ (o : Oper), o.op = .call ⟨.builtin .append, #[x, y], #[t, u]⟩ → (execOp a.eval o).run P w = .ok nx w') ∧ K d s' ∧
        SRel w0 F0 s' β' w' ∧ Ext s.nx w0 nX s β w s' β' w' ∧ s.nx ≤ s'.nx ∧ RV w' (Fr w0 F0 s' β') β' d v ∧ Oth β (etgt ρ (.call ⟨.builtin .append, #[x, y], #[t, u]⟩)) w w' ∧ Nb s s' β β' (etgt ρ (.call ⟨.builtin .append, #[x, y], #[t, u]⟩)) w := by
    intro old ovs hold hpo hr
    have hge := grownCap_ge w (n + str.size) old e
    have hcm : grownCap w (n + str.size) old e ≤ maxLen := grownCap_le_maxLen w (n + str.size) old e hml
    have hbd : BelowD w.heap.size w w.drew := ⟨rfl, rfl, rfl, Nat.le_refl _, fun _ _ => rfl, fun _ => Nat.le_succ _⟩
    obtain ⟨hs2, hext2⟩ := hdrop.1.below' hbd
    have hovl : ovs.length = n := by rw [← hpo.1]; exact hn
    have hzl : (Builtin.zeroCells (Value.int .u8 0).cells (grownCap w (n + str.size) old e - (n + str.size))).size = grownCap w (n + str.size) old e - (n + str.size) := by
      rw [size_zeroCells]; exact Nat.mul_one _
    have hcur : (ovs.toArray ++ (Lib.strCells str).toArray ++ Builtin.zeroCells (Value.int .u8 0).cells (grownCap w (n + str.size) old e - (n + str.size))).size = grownCap w (n + str.size) old e * 1 := by
      simp only [Array.size_append, List.size_toArray, hovl, hcl, hzl]; omega
    obtain ⟨k1, k2⟩ := hs2.alloc s.nx hs2.fresh.1 hs2.fresh.2 (s.nx + 1) (by show s.nx ≤ s.nx + 1; omega) (by omega) ⟨e, 1, o.cells ++ bytesD str⟩ _ (grownCap w (n + str.size) old e) hcur hcm (by
      rw [hcur, List.length_append, hn, bytesD_len]; omega) (fun j d hj => by
      rw [List.getElem?_append] at hj
      split at hj
      · rename_i hjl
        have hjo : j < ovs.length := by rw [← hpo.1]; exact hjl
        refine ⟨ovs[j], ?_, RV.ext hdrop.1 (Nat.le_refl _) (hext2 _) (hpo.2 j d _ hj (List.getElem?_eq_getElem hjo))⟩
        rw [Array.getElem?_append_left (by simp; omega), Array.getElem?_append_left (by simpa using hjo)]
        simp
      · rename_i hjl
        have hjn : j - o.cells.length < (Lib.strCells str).length := by have := (List.getElem?_eq_some_iff.1 hj).1; rw [bytesD_len] at this; omega
        refine ⟨(Lib.strCells str)[j - o.cells.length], ?_, ?_⟩
        · rw [Array.getElem?_append_left (by simp; omega), Array.getElem?_append_right (by simp; omega)]
          simp [hovl, hn]
        · rw [bytesD, List.getElem?_map, List.getElem?_eq_getElem hjn] at hj
          cases hj
          exact .data (.v _ (hxs _ _ (List.getElem?_eq_getElem hjn))))
    dsimp only at k1 k2
    rw [blk_cells hm] at k1 k2
    refine ⟨_, .slice (some ⟨w.heap.size, 0, none⟩) (n + str.size) (grownCap w (n + str.size) old e), _, _, _, _, .inl rfl, hrun _ _ hr, hK, k1, ((hdrop.2 _).trans ((hext2 _).trans (k2 _))), Nat.le_succ _, ?_⟩
    exact ⟨.arr _ _ w.heap.size _ (by simp) hge, fun b2 hb2 _ => heap_alloc_old w.drew _ hb2, .new s.nx (fun i e hi => hdso i (by simpa only [upd_ne _ _ _ e] using hi)) (fun i e => upd_ne _ _ _ e) (fun b c' hb => by simp at hb; exact Nat.le_of_eq hb.1)⟩
  have hdx : str0 (ρ x) = .arr id n := by rw [hx]; rfl
  rcases rv_arr hvx with ⟨b, c, hbb, hlc, hxe⟩ | ⟨hbb, h0, hxe⟩
  · rcases hs.obs id o hob with g | ⟨b', c', cur, g1, g2, g3, g4, g5, g6, g7⟩
    · rw [g.1] at hbb; cases hbb
    rw [g1] at hbb
    simp only [Option.some.injEq, Prod.mk.injEq] at hbb
    obtain ⟨rfl, rfl⟩ := hbb
    rw [blk_cells (by rw [he]; exact hm)] at g3
    rw [hos, Nat.mul_one] at g4
    have g3' : w.heap[b']? = some (.cells cur e (0, 0)) := by rw [g3, he]
    have hpo : Pw w (Fr w0 F0 s β) β o.cells (cur.toList.take n) := by
      refine ⟨by simp; omega, fun j d u h1 h2 => ?_⟩
      obtain ⟨q, hq, hr⟩ := g7 j d h1
      rw [List.getElem?_take] at h2
      split at h2
      · rw [Array.getElem?_toList, hq] at h2
        cases h2; exact hr
      · cases h2
    have hpol : (cur.toList.take n).length = n := by rw [← hpo.1]; exact hn
    by_cases hroom : n + str.size ≤ c'
    · -- in place
      have hr := fun ty => Lib.run_append_room_string (P := P) w t u ty e i ht hu hi hsz b' n c' cur g3' str hroom (by omega)
      have hl1 : n + (Lib.strCells str).length ≤ cur.toList.length := by simp; omega
      obtain ⟨k1, k2⟩ := hs.retake id o hob b' c' g1 s.nx (s.nx + 1) hs.fresh.1 hs.fresh.2 (by omega) (by omega) _ (cur.toList.take n ++ Lib.strCells str ++ cur.toList.drop (n + str.size)).toArray ⟨e, 1, o.cells ++ bytesD str⟩ hos.symm (below_setRow w b' _) (fun k hk => setRow_other w b' k _ hk) (by rw [setRow_heap w b' cur _ o.elem _ g3, he]; exact congrArg some (blk_cells hm _).symm) (by
          simp only [List.size_toArray, List.length_append, hpol, hcl, List.length_drop, Array.length_toList, hos]; omega) (by
          simp only [List.size_toArray, List.length_append, hpol, hcl, List.length_drop, Array.length_toList, hn, bytesD_len]; omega) (fun j d hj => by
          rw [List.getElem?_append] at hj
          simp only [List.getElem?_toArray]
          split at hj
          · rename_i hjl
            obtain ⟨q, hq, hr2⟩ := g7 j d hj
            refine ⟨q, ?_, hr2⟩
            rw [List.append_assoc, List.getElem?_append_left (by omega), List.getElem?_take, if_pos (by omega), Array.getElem?_toList]; exact hq
          · rename_i hjl
            have hjn : j - o.cells.length < (Lib.strCells str).length := by have := (List.getElem?_eq_some_iff.1 hj).1; rw [bytesD_len] at this; omega
            refine ⟨(Lib.strCells str)[j - o.cells.length], ?_, ?_⟩
            · rw [List.append_assoc, List.getElem?_append_right (by omega), hpol, List.getElem?_append_left (by omega), ← hn]
              exact List.getElem?_eq_getElem hjn
            · rw [bytesD, List.getElem?_map, List.getElem?_eq_getElem hjn] at hj
              cases hj
              exact .data (.v _ (hxs _ _ (List.getElem?_eq_getElem hjn))))
      refine ⟨_, .slice (some ⟨b', 0, none⟩) (n + str.size) c', _, _, _, _, .inl rfl, hrun _ _ (fun ty => by rw [hxe, hye]; exact hr ty), hK, k1, k2 _, Nat.le_succ _, .arr _ _ b' c' (by simp) hroom, fun b2 _ h2 => setRow_other w b' b2 _ (fun e => h2 id c' (by simp [etgt, hdx]) (by rw [e]; exact g1)), fun i b2 c2 hi hb2 _ => ?_⟩
      by_cases e : i = s.nx
      · subst e
        simp only [upd_same, Option.some.injEq, Prod.mk.injEq] at hb2
        exact .inr ⟨id, c', by simp [etgt, hdx], by simp [hob], by rw [← hb2.1]; exact g1⟩
      · exact .inl ⟨hdso i (by simpa only [upd_ne _ _ _ e] using hi), by rw [← hb2, upd_ne _ _ _ e]⟩
    · have hpo1 : Pw w (Fr w0 F0 ⟨upd s.ob id none, s.nx⟩ β) β o.cells (cur.toList.take n) := ⟨hpo.1, fun j d u h1 h2 => RV.ext hs (Nat.le_refl _) (hdrop.2 s.nx) (hpo.2 j d u h1 h2)⟩
      refine grown c' _ (by omega) hpo1 (fun ty => ?_)
      have := Lib.run_append_grow_string (P := P) w t u ty e i (.int .u8 0) ht hu hi hz ⟨b', 0, none⟩ n c' (cur.toList.take n) (by rw [hpol, hsz, Nat.mul_one]) (fun j v hv => by
          rw [List.getElem?_take] at hv
          split at hv
          · rw [Addr.add_lit, Nat.zero_add]; simpa [World.cell?, g3] using hv
          · cases hv) str (by omega) (by omega) (by rw [hby]; exact growslice_fits (by omega) (by omega))
      rw [hxe, hye, this]
  · subst h0
    have hc0 : o.cells = [] := List.eq_nil_of_length_eq_zero hn
    by_cases hm : str.size = 0
    · have hb0 : bytesD str = [] := List.eq_nil_of_length_eq_zero (by rw [bytesD_len]; exact hm)
      obtain ⟨k1, k2⟩ := hdrop.1.nilObj s.nx (s.nx + 1) hdrop.1.fresh.1 hdrop.1.fresh.2 (by show s.nx ≤ s.nx + 1; omega) (by omega) ⟨e, 1, o.cells ++ bytesD str⟩ (by rw [hc0, hb0]; rfl)
      refine ⟨_, .slice none 0 0, w, _, _, _, .inl rfl, hrun _ _ (fun ty => ?_), hK, k1, (hdrop.2 _).trans (k2 _), Nat.le_succ _, ?_, fun _ _ _ => rfl, .new s.nx (fun i e hi => hdso i (by simpa only [upd_ne _ _ _ e] using hi)) (fun i e => upd_ne _ _ _ e) (fun b c' hb => by simp at hb)⟩
      · rw [hxe, hye]
        have hn0 : Lib.strCells str = [] := List.eq_nil_of_length_eq_zero (by rw [hcl]; exact hm)
        have hf := Lib.run_firstCells_string (P := P) w 1 str
        rw [hm] at hf
        simp [Builtin.append_, run_underlying ht, run_underlying hu, sizeOf, typeInfo, hi, hsz, Builtin.lenOf, hm, hf]
      · rw [show 0 + str.size = 0 by omega]
        exact .arrNil _ (by simp)
    · refine grown 0 [] (by omega) (by rw [hc0]; exact .nil) (fun ty => ?_)
      have := run_append_nil_string (P := P) w t u ty e i (.int .u8 0) ht hu hi hz str (by omega) (by omega) (by rw [hby]; omega)
      have e1 : (str.data.map fun b => Value.int .u8 b.toNat) = (Lib.strCells str).toArray := by
        apply Array.ext'
        simp [Lib.strCells]
      rw [hxe, hye, this, e1]
      simp
end
theorem qsem_bstr {P : Program} {s : Sto} {src dst e : TypeId} {x : Operand} {ρ : Operand → DV} {id n : Nat} {o : DObj} {str : ByteArray} (hs : P.underlying src = some (.slice e)) (he : P.underlying e = some (.int .u8)) (hd : P.underlying dst = some .string)
    (hx : ρ x = .arr id n) (hob : s.ob id = some o) (hn : str.size = n) (hc : o.cells.take n = bytesD str) (hm : Nat.beq o.elem MAPT = false) : QSem P s (.convert src dst x) ρ (.v (.string str)) := fun w0 F0 β w a hs' hρ => by
  refine ⟨.string str, .data (.v _ rfl), fun op w' ho hk => ?_⟩
  have hv := hρ x
  rw [hx] at hv
  have hl : str.data.toList.length = n := by rw [← hn]; exact Array.length_toList
  rcases rv_arr hv with ⟨b, c, hb, hlc, hxe⟩ | ⟨_, h0, hxe⟩
  · rcases hs' id o hob with k1 | ⟨b', c', cur, k1, k2, k3, k4, k5, k6, k7⟩
    · rw [k1.1] at hb; cases hb
    rw [k1] at hb
    simp only [Option.some.injEq, Prod.mk.injEq] at hb
    obtain ⟨rfl, rfl⟩ := hb
    rw [blk_cells hm] at k3
    have hw' : w'.heap[b']? = some (.cells cur o.elem (0, 0)) := by rw [← k3]; exact hk b' (Array.getElem?_eq_some_iff.1 k3).1 (.inr ⟨id, o, c', hob, k1⟩)
    have := run_convert_bytes_back (P := P) w' src dst e ⟨b', 0, none⟩ c' str.data.toList hs he hd (fun j hj => by
      have h1 : (bytesD str)[j]? = some (.v (.int .u8 (str.data.toList[j].toNat : Int))) := by
        simp only [bytesD, Lib.strCells, List.map_map, List.getElem?_map, List.getElem?_eq_getElem hj]; rfl
      rw [← hc, List.getElem?_take, if_pos (by omega)] at h1
      obtain ⟨y, hy, hr⟩ := k7 j _ h1
      rw [Addr.add_lit, Nat.zero_add]
      simp only [World.cell?, hw']
      rw [rv_v hr] at hy
      simpa using hy)
    simp only [execOp, ho, hxe, Sem.run_bind]
    rw [hl] at this
    rw [this]
    rfl
  · subst h0
    have e0 : str = ⟨#[]⟩ := by
      have : str.data = #[] := Array.eq_empty_of_size_eq_zero hn
      cases str; simp only at this; rw [this]
    subst e0
    simp only [execOp, ho, hxe, Sem.run_bind]
    rw [Lib.run_convert_nil_bytes w' src dst e 0 hs he hd]
    rfl
theorem dq_bstr {P : Program} {s : Sto} {src dst e : TypeId} {x : Operand} {ρ : Operand → DV} {g : Bool} {K : DV → Prop} {id n : Nat} {o : DObj} (str : ByteArray) (hs : P.underlying src = some (.slice e)) (he : P.underlying e = some (.int .u8)) (hd : P.underlying dst = some .string)
    (hx : ρ x = .arr id n) (hob : s.ob id = some o) (hn : str.size = n) (hc : o.cells.take n = bytesD str) (hK : K (.v (.string str))) (hm : Nat.beq o.elem MAPT = false := by rfl) : ∃ d, (g = true → QSem P s (.convert src dst x) ρ d) ∧ K d :=
  ⟨_, fun _ => qsem_bstr hs he hd hx hob hn hc hm, hK⟩
theorem dq_nstr {P : Program} {s : Sto} {src dst e : TypeId} {x : Operand} {ρ : Operand → DV} {g : Bool} {K : DV → Prop} (hs : P.underlying src = some (.slice e)) (he : P.underlying e = some (.int .u8)) (hd : P.underlying dst = some .string)
    (hx : ρ x = .v (.slice none 0 0)) (hK : K (.v (.string ⟨#[]⟩))) : ∃ d, (g = true → QSem P s (.convert src dst x) ρ d) ∧ K d :=
  ⟨_, fun _ w0 F0 β w a hs' hρ => ⟨.string ⟨#[]⟩, .data (.v _ rfl), fun op w' ho hk => by
    have hv := hρ x
    rw [hx] at hv
    have hxe : a.eval x = .slice none 0 0 := rv_v hv
    simp only [execOp, ho, hxe, Sem.run_bind]
    rw [Lib.run_convert_nil_bytes w' src dst e 0 hs he hd]
    rfl⟩, hK⟩
end Go.Dl

namespace Go.Dl
open Go Go.RowKit
variable {ρ : Nat → Option Nat} {s : Sto} {pub : Nat → Prop}
end Go.Dl
namespace Go.Dl
open Go Go.RowKit
end Go.Dl
namespace Go.Dl.Mono
open Go
def Rd {α : Type} (n : Nat) : Result α → Prop
  | .ok _ w => n ≤ w.drawn
  | .halt _ w => n ≤ w.drawn
def Gd (n : Nat) : GStep → Prop
  | .go _ w _ => n ≤ w.drawn
  | .comm _ _ _ _ w _ => n ≤ w.drawn
  | .spawn _ _ w _ => n ≤ w.drawn
  | .count _ w _ => n ≤ w.drawn
  | .timer _ _ w _ => n ≤ w.drawn
  | .alone _ _ w _ => n ≤ w.drawn
  | .newcoro _ _ _ w _ => n ≤ w.drawn
  | .coroswitch _ _ _ w _ => n ≤ w.drawn
  | .collect _ w _ => n ≤ w.drawn
  | .watch _ w _ => n ≤ w.drawn
  | .ended _ _ _ => True
def Sd (n : Nat) : Stepped → Prop
  | .next m => n ≤ m.world.drawn
  | .ended _ _ => True
theorem gd_after {n : Nat} {s : GStep} (es : Array Event) (h : Gd n s) : Gd n (s.after es) := by cases s <;> exact h
theorem view_drawn {p : Program} {w : World} {at_ : Addr} {u : TypeId} {k : Addr} {v : Value} {atomic : Bool} {r : World × List Addr} (h : w.viewStore p at_ u k v atomic = .ok r) : r.1.drawn = w.drawn := by
  unfold World.viewStore at h
  simp only [bind, Except.bind, pure, Except.pure] at h
  repeat' split at h
  all_goals first | (cases h; done) | (cases h; rfl)
theorem far_drawn {p : Program} {w : World} {a : Addr} {v : Value} {atomic : Bool} {r : World × List Addr} (h : w.farStore p a v atomic = .ok r) : r.1.drawn = w.drawn := by
  unfold World.farStore at h
  split at h
  · split at h
    · rename_i h2
      cases h
      exact view_drawn h2
    · cases h
  · cases h
theorem ask_drawn {α : Type} {n : Nat} : ∀ (a : Ask α) (w : World), n ≤ w.drawn → n ≤ (w.ask a).2.drawn := by
  intro a
  induction a with
  | done a => intro w h; unfold World.ask; exact h
  | ask what range k ih =>
    intro w h
    unfold World.ask
    dsimp only
    split
    · exact ih _ _ h
    · exact ih _ _ (Nat.le_succ_of_le h)
theorem sys_drawn {n : Nat} (w : World) (c : Sys) (h : n ≤ w.drawn) : n ≤ (w.sys c).2.drawn := by
  have h1 := ask_drawn (Kernel.perform c w.os) w h
  unfold World.sys
  split
  · exact h
  · rename_i e
    rw [e] at h1; exact h1
theorem run_drawn {α : Type} {n : Nat} (p : Program) : ∀ (s : Sem α) (w : World), n ≤ w.drawn → Rd n (s.run p w) := by
  intro s
  induction s with
  | pure a => intro w h; exact h
  | load m a k ih =>
    intro w h
    unfold Sem.run
    split
    · exact ih _ _ h
    · split
      · exact ih _ _ h
      · exact h
  | store m a v k ih =>
    intro w h
    unfold Sem.run
    cases v
    case agg => exact h
    case tuple => exact h
    all_goals
      dsimp only
      split
      · split
        · exact h
        · exact ih _ h
      · split
        · rename_i e; exact ih _ (by have := far_drawn e; dsimp only at this; omega)
        · exact h
  | new o k ih => intro w h; exact ih _ _ h
  | shape r k ih => intro w h; exact ih _ _ h
  | freeze a m k ih => intro w h; unfold Sem.run; refine ih _ ?_; unfold World.freeze; split <;> exact h
  | frozen a k ih => intro w h; exact ih _ _ h
  | getObj r k ih => intro w h; unfold Sem.run; split; exact h; exact ih _ _ h; exact h
  | setObj r o k ih => intro w h; unfold Sem.run; split; exact h; exact ih _ h; exact h
  | choose q k ih => intro w h; unfold Sem.run; split; exact ih _ _ h; exact ih _ _ (Nat.le_succ_of_le h)
  | sys c k ih => intro w h; exact ih _ _ (sys_drawn w c h)
  | program k ih => intro w h; exact ih _ _ h
  | mark m k ih => intro w h; exact ih _ h
  | halt ht => intro w h; exact h
theorem runT_drawn {α : Type} {n : Nat} (p : Program) : ∀ (s : Sem α) (w : World) (es : Array Event), n ≤ w.drawn → Rd n (s.runT p w es).1 := by
  intro s
  induction s with
  | pure a => intro w es h; exact h
  | load m a k ih =>
    intro w es h
    unfold Sem.runT
    split
    · exact ih _ _ _ h
    · split
      · exact ih _ _ _ h
      · exact h
  | store m a v k ih =>
    intro w es h
    unfold Sem.runT
    cases v
    case agg => exact h
    case tuple => exact h
    all_goals
      dsimp only
      split
      · split
        · exact h
        · exact ih _ _ h
      · split
        · rename_i e; exact ih _ _ (by have := far_drawn e; dsimp only at this; omega)
        · exact h
  | new o k ih => intro w es h; exact ih _ _ _ h
  | shape r k ih => intro w es h; exact ih _ _ _ h
  | freeze a m k ih => intro w es h; unfold Sem.runT; refine ih _ _ ?_; unfold World.freeze; split <;> exact h
  | frozen a k ih => intro w es h; exact ih _ _ _ h
  | getObj r k ih => intro w es h; unfold Sem.runT; split; exact h; exact ih _ _ _ h; exact h
  | setObj r o k ih => intro w es h; unfold Sem.runT; split; exact h; exact ih _ _ h; exact h
  | choose q k ih => intro w es h; unfold Sem.runT; split; exact ih _ _ _ h; exact ih _ _ _ (Nat.le_succ_of_le h)
  | sys c k ih => intro w es h; exact ih _ _ _ (sys_drawn w c h)
  | program k ih => intro w es h; exact ih _ _ _ h
  | mark m k ih => intro w es h; exact ih _ _ h
  | halt ht => intro w es h; exact h
theorem rd_ok {α : Type} {n : Nat} {p : Program} {s : Sem α} {w w' : World} {v : α} (e : s.run p w = .ok v w') (h : n ≤ w.drawn) : n ≤ w'.drawn := by
  have := run_drawn p s w h; rw [e] at this; exact this
theorem rd_h {α : Type} {n : Nat} {p : Program} {s : Sem α} {w w' : World} {v : Halt} (e : s.run p w = .halt v w') (h : n ≤ w.drawn) : n ≤ w'.drawn := by
  have := run_drawn p s w h; rw [e] at this; exact this
theorem rt_ok {α : Type} {n : Nat} {p : Program} {s : Sem α} {w w' : World} {v : α} {es es' : Array Event} (e : s.runT p w es = (.ok v w', es')) (h : n ≤ w.drawn) : n ≤ w'.drawn := by
  have := runT_drawn p s w es h; rw [e] at this; exact this
theorem rt_h {α : Type} {n : Nat} {p : Program} {s : Sem α} {w w' : World} {v : Halt} {es es' : Array Event} (e : s.runT p w es = (.halt v w', es')) (h : n ≤ w.drawn) : n ≤ w'.drawn := by
  have := runT_drawn p s w es h; rw [e] at this; exact this
variable {n : Nat} {p : Program} {w : World}
theorem ite_d {c : Prop} [Decidable c] {a b : GStep} (ha : Gd n a) (hb : Gd n b) : Gd n (if c then a else b) := by split; exact ha; exact hb
theorem endWith_d (fd : Nat) (text : ByteArray) (o : Outcome) : Gd n (endWith w fd text o) := by
  unfold endWith; dsimp only; split
  · split <;> trivial
  · trivial
  · trivial
theorem dieOf_d (h : n ≤ w.drawn) (fr : Frame) (ahead : List ByteArray) (m : String) (whole : Bool) : Gd n (dieOf fr ahead m whole w) := h
theorem endThrow_d (h : n ≤ w.drawn) (fr : Frame) (m : String) : Gd n (endThrow fr m w) := h
theorem endPrinting_d (h : n ≤ w.drawn) (fr : Frame) (v : Value) : Gd n (endPrinting p fr v w) := by
  unfold endPrinting; dsimp only
  split
  · exact endThrow_d h _ _
  · trivial
theorem endFatal_d (h : n ≤ w.drawn) (fr : Frame) (callers : List Frame) (dying : Option Dying) (m : String) : Gd n (endFatal p fr callers dying m w) := by
  unfold endFatal; dsimp only
  split
  · rename_i e; exact dieOf_d (rd_ok e h) _ _ _ _
  · trivial
  · trivial
theorem writeOn_d (h : n ≤ w.drawn) (fr : Frame) (d : Dying) (f : Fatal) : Gd n (writeOn p fr d f w) := by
  unfold writeOn; dsimp only
  split
  · trivial
  · split
    · rename_i e; exact rt_ok e h
    · rename_i e; exact rt_h e h
    · trivial
    · trivial
theorem die_d (h : n ≤ w.drawn) (fr : Frame) (d : Dying) : Gd n (die p fr d w) := by
  unfold die
  split
  · exact writeOn_d h _ _ _
  · split
    · split
      · exact h
      · exact endWith_d _ _ _
    · dsimp only
      split
      · exact h
      · split
        · rename_i e; exact rd_ok e h
        · trivial
      · rename_i t recv name _
        have hr := runT_drawn p (invoke (.fn (.method name) #[]) #[.iface t recv]) w #[] h
        generalize Sem.runT p (invoke (.fn (.method name) #[]) #[.iface t recv]) w #[] = x at hr ⊢
        obtain ⟨r, es⟩ := x
        refine gd_after _ ?_
        dsimp only
        split
        · exact hr
        · exact hr
        · trivial
        · exact endPrinting_d hr _ _
        · trivial
      · trivial
theorem doReturn_d (h : n ≤ w.drawn) (main : Bool) (fr : Frame) (callers : List Frame) (dying : Option Dying) (v : Value) : Gd n (doReturn p main fr callers dying v w) := by
  unfold doReturn
  repeat' split
  all_goals first | exact h | trivial
theorem callDeferred_d (h : n ≤ w.drawn) (fr : Frame) (callers : List Frame) (dying : Option Dying) (d : Deferred) : Gd n (callDeferred p fr callers dying d w) := by
  unfold callDeferred
  refine ite_d trivial ?_
  · have hr := runT_drawn p (invoke d.target d.args) w #[] h
    generalize Sem.runT p (invoke d.target d.args) w #[] = x at hr ⊢
    obtain ⟨r, es⟩ := x
    refine gd_after _ ?_
    repeat' split
    all_goals first | exact hr | exact endFatal_d hr _ _ _ _ | exact endThrow_d hr _ _ | trivial
theorem unwind_d (h : n ≤ w.drawn) (main : Bool) (fr : Frame) (callers : List Frame) (dying : Option Dying) : Gd n (unwind p main fr callers dying w) := by
  unfold unwind
  split
  · rename_i block _ _ _
    have hr := runT_drawn p (Instr.takeDeferred block) w #[] h
    generalize Sem.runT p (Instr.takeDeferred block) w #[] = x at hr ⊢
    obtain ⟨r, es⟩ := x
    refine gd_after _ ?_
    split
    · exact hr
    · trivial
  · exact callDeferred_d h _ _ _ _
  · split
    · trivial
    · split
      · trivial
      · split
        · exact h
        · split
          · split
            · exact h
            · split
              · rename_i e; exact rd_ok e h
              · trivial
              · trivial
          · split
            · exact endPrinting_d h _ _
            · trivial
    · split
      · exact doReturn_d h _ _ _ _ _
      · rename_i fn _
        have hr := runT_drawn p (results fn fr.tmps) w #[] h
        generalize Sem.runT p (results fn fr.tmps) w #[] = x at hr ⊢
        obtain ⟨r, es⟩ := x
        refine gd_after _ ?_
        split
        · exact doReturn_d hr _ _ _ _ _
        · trivial
        · trivial
theorem early_d (h : n ≤ w.drawn) (fr : Frame) (callers : List Frame) (dying : Option Dying) (g : Nat) : Gd n (early p fr callers dying g w) := by
  unfold early
  dsimp only
  repeat' split
  all_goals first | exact h | (have h2 := rd_ok (s := choose (Question.early g)) (by assumption) h; exact h2) | trivial
theorem apply_d (h : n ≤ w.drawn) (listen : Bool) (fr : Frame) (callers : List Frame) (dying : Option Dying) (s : Sem Next) : Gd n (stepG.apply p listen fr callers dying s w) := by
  unfold stepG.apply
  have hr : Rd n (if listen = true then s.runT p w #[] else (s.run p w, #[])).1 := by
    split
    · exact runT_drawn p s w #[] h
    · exact run_drawn p s w h
  generalize (if listen = true then s.runT p w #[] else (s.run p w, #[])) = x at hr ⊢
  obtain ⟨r, es⟩ := x
  refine gd_after _ ?_
  dsimp only
  repeat' split
  all_goals first | exact hr | exact endFatal_d hr _ _ _ _ | exact endThrow_d hr _ _ | exact early_d hr _ _ _ _ | trivial
theorem oper_d (h : n ≤ w.drawn) (listen : Bool) (fr : Frame) (callers : List Frame) (dying : Option Dying) : Gd n (stepG.oper p listen fr callers dying w) := by
  unfold stepG.oper
  split
  · trivial
  · split
    · exact apply_d h _ _ _ _ _
    · exact apply_d h _ _ _ _ _
theorem rf_ok {α : Type} {s : Sem α} {w' : World} {v : α} {es : Array Event} (e : (s.runT p w es).1 = .ok v w') (h : n ≤ w.drawn) : n ≤ w'.drawn := by
  have := runT_drawn p s w es h; rw [e] at this; exact this
theorem rf_h {α : Type} {s : Sem α} {w' : World} {v : Halt} {es : Array Event} (e : (s.runT p w es).1 = .halt v w') (h : n ≤ w.drawn) : n ≤ w'.drawn := by
  have := runT_drawn p s w es h; rw [e] at this; exact this
theorem elim_d {α : Type} {o : Option α} {a : GStep} {f : α → GStep} (ha : Gd n a) (hf : ∀ x, Gd n (f x)) : Gd n (o.elim a f) := by
  cases o with
  | none => exact ha
  | some x => exact hf x
theorem exec_d (h : n ≤ w.drawn) (main listen : Bool) (fr : Frame) (callers : List Frame) (dying : Option Dying) : Gd n (stepG.exec p main listen fr callers dying w) := by
  unfold stepG.exec
  dsimp only
  split
  all_goals repeat' (first | exact h | trivial | exact apply_d h _ _ _ _ _ | exact oper_d h _ _ _ _ | exact apply_d (rf_ok (by assumption) h) _ _ _ _ _ | exact doReturn_d (rf_ok (by assumption) h) _ _ _ _ _ | exact rf_ok (by assumption) h | exact rf_h (by assumption) h | exact rd_ok (by assumption) h | refine elim_d ?_ (fun _ => ?_) | refine gd_after _ ?_ | split)
theorem stepG_d (h : n ≤ w.drawn) (main listen : Bool) (g : Goroutine) : Gd n (stepG p main g w listen) := by
  unfold stepG
  dsimp only
  split
  · exact die_d h _ _
  · exact exec_d h _ _ _ _ _
  · exact unwind_d h _ _ _ _
def Sp {α : Type} (n : Nat) (x : Stepped × α) : Prop := Sd n x.1
theorem communicate_d (h : n ≤ w.drawn) (rest : Rest) (gs : Array Goroutine) (i : Nat) (g : Goroutine) (cases : Array CommCase) (blocking : Bool) (shape : CommShape) : Sp n (communicate p rest gs i g cases blocking shape w) := by
  unfold communicate
  dsimp only
  split
  · trivial
  · split
    · split
      · split
        · rename_i e
          unfold waitingAt at e
          split at e
          · split at e
            · cases e; exact h
            · cases e
          · cases e; exact h
        · trivial
      · exact h
    · split
      · trivial
      · rename_i e
        have h1 := rd_ok e h
        repeat' split
        all_goals first | exact h1 | trivial | (have h2 := rd_ok (by assumption) h1; exact h2) | (have h2 := rd_h (by assumption) h1; exact h2)
theorem look_d (h : n ≤ w.drawn) (gs : Array Goroutine) (rest : Rest) : Sd n (look p gs rest w) := by
  unfold look
  split
  · dsimp only
    split
    · trivial
    · split
      · trivial
      · split
        · rename_i e; exact (rd_ok e h : _)
        · trivial
        · trivial
  · trivial
theorem drain_d (h : n ≤ w.drawn) (c : Nat) : n ≤ (drain w c).2.drawn := by
  unfold drain; split <;> exact h
theorem retime_d {m : Machine} (h : n ≤ m.world.drawn) (k : Nat) (t : Timer) (a b : Nat) : n ≤ (retime m k t a b).2.world.drawn := by
  unfold retime
  cases t.chan with
  | none => exact h
  | some c => exact drain_d h c
theorem named_d {m : Machine} (var : Addr) (f : Nat → Timer → Value × Machine) (hf : ∀ k t, n ≤ (f k t).2.world.drawn) {r : Value × Machine} (e : timerOp.named m var f = .ok r) : n ≤ r.2.world.drawn := by
  unfold timerOp.named at e
  split at e
  · cases e; exact hf _ _
  · cases e
theorem opened_d {m m1 : Machine} (h : n ≤ m.world.drawn) (var : Addr) (e : timerOp.opened m var = some m1) : n ≤ m1.world.drawn := by
  unfold timerOp.opened at e
  split at e
  · split at e
    · cases e; exact h
    · cases e
  · cases e; exact h
theorem timerOp_d {m : Machine} (h : n ≤ m.world.drawn) (op : TimerOp) {r : Value × Machine} (e : timerOp m op = .ok r) : n ≤ r.2.world.drawn := by
  unfold timerOp at e
  split at e
  · split at e
    · cases e; exact h
    · split at e
      · split at e
        · cases e
        · cases e; exact h
      · cases e
  · exact named_d _ _ (fun k t => retime_d h _ _ _ _) e
  · split at e
    · rename_i e2
      exact named_d _ _ (fun k t => retime_d (opened_d h _ e2) _ _ _ _) e
    · cases e
  · cases e; exact h
theorem serve_d {m : Machine} (h : n ≤ m.world.drawn) (k : Nat) : Sd n (serve p m k) := by
  unfold serve
  split
  · trivial
  · exact h
  · dsimp only
    split
    · trivial
    · exact h
theorem runT_d {m : Machine} (h : n ≤ m.world.drawn) (i : Nat) (listen : Bool) : Sp n (runT p m i listen) := by
  unfold runT
  dsimp only
  have hg := stepG_d (p := p) h (i == 0) listen (m.gs.swapAt! i { (default : Goroutine) with status := .finished }).1
  generalize stepG p (i == 0) (m.gs.swapAt! i { (default : Goroutine) with status := .finished }).1 m.world listen = s at hg ⊢
  cases s with
  | ended o w => trivial
  | comm g cases blocking shape w => exact communicate_d hg _ _ _ _ _ _ _
  | go g w => exact hg
  | spawn g child w => exact hg
  | count g w =>
    dsimp only
    split
    · trivial
    · exact hg
  | alone g on w => exact hg
  | collect g w => exact look_d hg _ _
  | watch g w => exact hg
  | newcoro g c d w => exact hg
  | coroswitch g c exit w =>
    dsimp only
    split
    · exact hg
    · exact hg
    · trivial
  | timer g op w =>
    dsimp only
    split
    · rename_i e
      exact timerOp_d (m := ⟨w, _, m.rest⟩) hg op e
    · exact hg
    · trivial
    · trivial
def Md (n : Nat) : Move → Prop
  | .goroutine m _ => n ≤ m.world.drawn
  | .machine s _ => Sd n s
theorem endWith_n {q : Nat} {w1 : World} (fd : Nat) (text : ByteArray) (o : Outcome) : Md q (match endWith w1 fd text o with
    | .ended o w _ => .machine (.ended o w)
    | _ => .machine (.ended (.stuck "" "") default)) := by
  split <;> trivial
theorem pick_d {m : Machine} (h : n ≤ m.world.drawn) (rs : List Nat) : Md n (match (choose (.sched rs.length)).run p m.world with
      | .halt _ w => Move.machine (.ended (.stuck "sched" "") w)
      | .ok k world =>
        if rs.length ≤ 1 then .goroutine { m with world } (rs.getD k 0) else
        match (choose (.extern "sched.slice" 65536)).run p world with
        | .halt _ w => .machine (.ended (.stuck "sched.slice" "") w)
        | .ok n world => .goroutine { m with world, rest := { m.rest with slice := if n = 0 then none else some (rs.getD k 0, n) } } (rs.getD k 0)) := by
  split
  · trivial
  · rename_i e
    have h1 := rd_ok e h
    split
    · exact h1
    · split
      · trivial
      · rename_i e2
        have h2 := rd_ok e2 h1
        exact h2
theorem askOn_d {m : Machine} (h : n ≤ m.world.drawn) : Md n (askOn p m) := by
  unfold askOn
  dsimp only
  split
  · trivial
  · rename_i e
    have h1 := rd_ok e h
    split
    · exact serve_d (m := { m with world := _ }) h1 _
    · split
      · split
        · exact h1
        · split
          · exact h1
          · exact endWith_n _ _ _
      · split
        · exact pick_d (m := { m with world := _ }) h1 _
        · split
          · trivial
          · rename_i e2
            have h2 := rd_ok e2 h1
            exact pick_d (m := { m with world := _ }) h2 _
          · rename_i e2
            have h2 := rd_ok e2 h1
            exact h2
          · rename_i e2
            have h2 := rd_ok e2 h1
            exact pick_d (m := Machine.advanceTo { m with world := _ } _) h2 _
theorem ask_d {m : Machine} (h : n ≤ m.world.drawn) : Md n (ask p m) := by
  unfold ask
  split
  · split
    · trivial
    · rename_i e
      have h1 := rd_ok e h
      split
      · rename_i e2
        have h2 := look_d (p := p) h1 m.gs m.rest
        rw [e2] at h2
        exact askOn_d h2
      · have h2 := look_d (p := p) h1 m.gs m.rest
        exact h2
    · rename_i e
      have h1 := rd_ok e h
      exact askOn_d (m := { m with world := _ }) h1
  · exact askOn_d h
theorem move_d {m : Machine} (h : n ≤ m.world.drawn) : Md n (move p m) := by
  unfold move
  split
  · split
    · exact h
    · trivial
  · split
    · split
      · exact h
      · exact ask_d (m := { m with rest := _ }) h
    · exact ask_d h
theorem step_d {m : Machine} (h : n ≤ m.world.drawn) : Sd n (step p m) := by
  unfold step stepT
  have hm := move_d (p := p) h
  generalize move p m = x at hm ⊢
  cases x with
  | goroutine m i => exact runT_d hm _ _
  | machine s ops => exact hm
theorem runN_d : ∀ (k : Nat) {m : Machine}, n ≤ m.world.drawn → Sd n (runN p k m)
  | 0, m, h => h
  | k + 1, m, h => by
    unfold runN
    have h1 := step_d (p := p) h
    split
    · rename_i e
      rw [e] at h1
      exact runN_d k h1
    · exact h1
theorem steps_d {m m' : Machine} (h : Steps p m m') : m.world.drawn ≤ m'.world.drawn := by
  obtain ⟨k, hk⟩ := h
  have h1 := runN_d (p := p) k (Nat.le_refl m.world.drawn)
  rw [hk] at h1
  exact h1
theorem _root_.Go.Calls.drew {f : FuncId} {args : Array Value} {R : Ending → World → Prop} (h : Calls p f args w R) : Calls p f args w fun e w' => R e w' ∧ (e ≠ .outgrown → w.drawn ≤ w'.drawn) := fun cs => by
  obtain ⟨e, w', fr, h1, h2, h3⟩ := h cs
  refine ⟨e, w', fr, ⟨h1, fun hn => ?_⟩, h2, h3⟩
  cases e with
  | outgrown => exact absurd rfl hn
  | returned v => exact steps_d h2
  | panicked c => exact steps_d h2
theorem below_grown {w w' : World} (h : RowKit.Below w.heap.size w w') (h6 : w.drawn ≤ w'.drawn) : ∃ q os, w' = Sort.grow (w.drewN q) os := by
  refine ⟨w'.drawn - w.drawn, w'.heap.extract w.heap.size w'.heap.size, ?_⟩
  obtain ⟨h1, h2, h3, h4, h5⟩ := h
  obtain ⟨heap, tape, drawn, os, output⟩ := w
  obtain ⟨heap', tape', drawn', os', output'⟩ := w'
  simp only at h1 h2 h3 h4 h5 h6
  subst h1 h2 h3
  have e1 : heap' = heap ++ heap'.extract heap.size heap'.size := by
    apply Array.ext_getElem?
    intro i
    by_cases hi : i < heap.size
    · rw [Array.getElem?_append_left hi, h5 i hi]
    · rw [Array.getElem?_append_right (by omega), Array.getElem?_extract]
      by_cases hj : i < heap'.size
      · rw [if_pos (by omega)]
        congr 1; omega
      · rw [if_neg (by omega), Array.getElem?_eq_none (by omega)]
  have e2 : drawn + (drawn' - drawn) = drawn' := by omega
  show World.mk heap' tape' drawn' os' output' = World.mk (heap ++ heap'.extract heap.size heap'.size) tape' (drawn + (drawn' - drawn)) os' output'
  rw [e2, ← e1]
end Go.Dl.Mono
