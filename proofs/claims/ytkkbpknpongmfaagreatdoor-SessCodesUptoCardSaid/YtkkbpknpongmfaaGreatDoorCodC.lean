/- The document's May. -/
import Derived.Test.YtkkbpknpongmfaaGreatDoorCodB
namespace Go.Proofs.YtkkbpknpongmfaaGreatDoor
open Go Go.Abs Classical
noncomputable section
theorem wOk_take {c : Ws} {j : Nat} (hj : j < c.length) : wOk (c.take (j + 1)) ↔ wOk (c.take j) ∧ (c[j]).length ≤ 512 := by
  have ht : c.take (j + 1) = c.take j ++ [c[j]] := by rw [List.take_add_one, List.getElem?_eq_getElem hj]; rfl
  rw [ht]
  constructor
  · intro h
    exact ⟨fun w hw => h w (List.mem_append_left _ hw), h _ (List.mem_append_right _ (List.mem_singleton.2 rfl))⟩
  · rintro ⟨h1, h2⟩ w hw
    rcases List.mem_append.1 hw with hw | hw
    · exact h1 w hw
    · simp at hw; subst hw; exact h2
theorem wOk_sub {c : Ws} {j : Nat} (h : ¬ wOk (c.take j)) : ¬ wOk c := fun hh => h fun w hw => hh w (List.mem_of_mem_take hw)
theorem cOks_take {cs : List Ws} {i : Nat} (hi : i < cs.length) : (∀ c ∈ cs.take (i + 1), cOk c) ↔ (∀ c ∈ cs.take i, cOk c) ∧ cOk cs[i] := by
  have ht : cs.take (i + 1) = cs.take i ++ [cs[i]] := by rw [List.take_add_one, List.getElem?_eq_getElem hi]; rfl
  rw [ht]
  constructor
  · intro h
    exact ⟨fun w hw => h w (List.mem_append_left _ hw), h _ (List.mem_append_right _ (List.mem_singleton.2 rfl))⟩
  · rintro ⟨h1, h2⟩ w hw
    rcases List.mem_append.1 hw with hw | hw
    · exact h1 w hw
    · simp at hw; subst hw; exact h2
theorem may_in {cv u : Value} {N D : Int} {g i b o : Nat} {c : Ws} {H : AHeap} {rd : Option Nat} {B : Nat} (r : Grp g H N D cv) (e1 : E.vIndexAddr 30 cv i = some (pto b o)) (e2 : E.loadVar H 23 b o = some u) (hu : Sl B H u (c.map str)) (hc : c.length < 9223372036854775807) :
    SW PP rd (.loop (bodyOf 17 1)) (fr17i g i 0) H (LQ 2 (fun _ : Unit => fr17 g i) (fun _ h' => h' = H ∧ wOk c) (fun _ : Unit => fr17r) (fun _ h' => h' = H ∧ ¬ wOk c)) := by
  refine loop_or [1,2,3,4] (fun k f h => ∃ j, j + k = c.length ∧ f = fr17i g i j ∧ h = H ∧ wOk (c.take j)) ?_ (k := c.length) ⟨0, by omega, rfl, rfl, by intro w hw; simp at hw⟩
  rintro k f h ⟨j, hk, rfl, rfl, t⟩
  have l4 := Sl.lenS (h' := h) hu 9
  by_cases hj : j < c.length
  · obtain ⟨b2, o2, _, f1, f2⟩ := Sl.atS hu j hj
    refine ⟨mayI cv u c.length b o b2 o2 c[j], ?_⟩
    rw [may_in_ev]
    refine ⟨r.load2, e1, e2, l4, fun _ => ⟨r.load2, e1, e2, f1, f2, rfl, fun hc => ?_, fun hc => ?_⟩, fun hc => absurd (Int.ofNat_lt.2 hj) (of_decide_eq_false hc)⟩
    · refine .inr ⟨rfl, (), (show Less (keepF [2] (fr 68 [(1, ptr g), (2, .bool false), (3, .int .i64 (.ofNat i)), (4, .int .i64 (.ofNat j))])) _ from keepF_less _ _), rfl, ?_⟩
      have hc := Int.ofNat_lt.1 (of_decide_eq_true hc)
      exact wOk_sub (j := j + 1) fun h => by have := ((wOk_take hj).1 h).2; omega
    · have hc : ¬ 512 < (c[j]).length := fun h => of_decide_eq_false hc (Int.ofNat_lt.2 h)
      refine ⟨k - 1, by omega, j + 1, by omega, ?_, rfl, (wOk_take hj).2 ⟨t, by omega⟩⟩
      rw [wrap_succ (by omega)]
  · refine ⟨mayI cv u c.length b o 0 0 [], ?_⟩
    rw [may_in_ev]
    refine ⟨r.load2, e1, e2, l4, fun hc => absurd (Int.ofNat_lt.1 (of_decide_eq_true hc)) hj, fun _ => .inl ⟨rfl, (), (show Less (keepF [1,3] (fr17i g i j)) _ from keepF_less _ _), rfl, ?_⟩⟩
    rwa [List.take_of_length_le (by omega)] at t
theorem may_ok {h : AHeap} {N D : Int} {cv : Value} {cs : List Ws} (hv : SlG h.next h cv cs) (hl : cs.length < 9223372036854775807) (hcl : ∀ c ∈ cs, c.length < 9223372036854775807) :
    SC PP 17 [.agg #[.int .i64 N, .int .i64 D, cv]] h (fun x h' => x = .ret (.bool (decide (mayN N cs))) ∧ Keep h.next h h') := by
  have k1 := row_keep h [.int .i64 N, .int .i64 D, cv]
  have g1 := Grp.row h N D cv
  have hv' : SlG (h.next + 1) (h.row [.int .i64 N, .int .i64 D, cv]) cv cs := hv.keep k1 (Nat.le_succ _)
  apply orCall_sound E_ok mixed (may0 N cv cs.length (fun _ h' => h' = h.row [.int .i64 N, .int .i64 D, cv] ∧ ∀ c ∈ cs, cOk c) (fun _ h' => h' = h.row [.int .i64 N, .int .i64 D, cv] ∧ ¬ ∀ c ∈ cs, cOk c))
  rw [may_ev]
  have hno : (¬ mayN N cs) → (fun x h' => x = ARet.ret (.bool (decide (mayN N cs))) ∧ Keep h.next h h') (.ret (.bool false)) (h.row [.int .i64 N, .int .i64 D, cv]) := fun hh => ⟨by rw [decide_eq_false hh], k1⟩
  refine ⟨g1.load0, fun hc => hno fun hh => ?_, fun h1 => ⟨g1.load0, fun hc => hno fun hh => ?_, fun h2 => ⟨g1.load2, hv'.len 23, fun hc => hno fun hh => ?_, fun h3 => ⟨g1.load2, hv'.len 23, fun hc => hno fun hh => ?_, fun h4 => ⟨fun rd => ?_, ?_, ?_⟩⟩⟩⟩⟩
  · have := hh.1; have := of_decide_eq_true hc; omega
  · have := hh.2.1
    have hc := of_decide_eq_true hc
    have h9 : (maxNum : Int) = Int.ofNat 1099511627776 := rfl
    omega
  · have := hh.2.2.1; have := Int.ofNat_lt.1 (of_decide_eq_true hc); omega
  · have := hh.2.2.2.1; have := Int.ofNat_lt.1 (of_decide_eq_true hc); omega
  · refine loop_or [1,2,3] (fun k f h' => ∃ i, i + k = cs.length ∧ f = fr17 h.next i ∧ h' = h.row [.int .i64 N, .int .i64 D, cv] ∧ ∀ c ∈ cs.take i, cOk c) ?_ (k := cs.length) ⟨0, by omega, rfl, rfl, by intro w hw; simp at hw⟩
    rintro k f h' ⟨i, hk, rfl, rfl, t⟩
    by_cases hi : i < cs.length
    · obtain ⟨b, o, u, _, e1, e2, e3⟩ := hv'.at i hi
      have hci := hcl cs[i] (List.getElem_mem _)
      have hl9 := Sl.lenS (h' := h.row [.int .i64 N, .int .i64 D, cv]) e3 9
      have hbad : ∀ (ff : AFr), Less fr17r ff → (¬ cOk cs[i]) → LQ 0 (fun _ : Unit => fr 68 []) (fun _ h' => h' = h.row [.int .i64 N, .int .i64 D, cv] ∧ ∀ c ∈ cs, cOk c) (fun _ : Unit => fr17r) (fun _ h' => h' = h.row [.int .i64 N, .int .i64 D, cv] ∧ ¬ ∀ c ∈ cs, cOk c) .ret ff (h.row [.int .i64 N, .int .i64 D, cv]) := fun ff hless hn =>
        .inr ⟨rfl, (), hless, rfl, fun hh => hn (hh _ (List.getElem_mem _))⟩
      refine ⟨mayO (h.row [.int .i64 N, .int .i64 D, cv]) h.next cv u cs.length i (cs[i]).length b o (wOk cs[i]) (¬ wOk cs[i]), ?_⟩
      rw [may_out_ev]
      refine ⟨g1.load2, hv'.len 23, fun _ => ⟨g1.load2, e1, e2, hl9, fun hc => ?_, fun hc1 => ⟨g1.load2, e1, e2, hl9, fun hc => ?_, fun hc2 => ⟨fun rd => may_in g1 e1 e2 e3 hci, ?_, ?_⟩⟩⟩, fun hc => absurd (Int.ofNat_lt.2 hi) (of_decide_eq_false hc)⟩
      · exact hbad _ (show Less (keepF [2] (fr 68 [(1, ptr h.next), (2, .bool false), (3, .int .i64 (.ofNat i))])) _ from keepF_less _ _) fun hh => by have := hh.1; have := Int.ofNat_lt.1 (of_decide_eq_true hc); omega
      · exact hbad _ (show Less (keepF [2] (fr 68 [(1, ptr h.next), (2, .bool false), (3, .int .i64 (.ofNat i))])) _ from keepF_less _ _) fun hh => by have := hh.2.1; have := Int.ofNat_lt.1 (of_decide_eq_true hc); omega
      · rintro _ h' ⟨rfl, hw⟩
        have hc1 : ¬ (cs[i]).length < 1 := fun h => of_decide_eq_false hc1 (Int.ofNat_lt.2 h)
        have hc2 : ¬ 40 < (cs[i]).length := fun h => of_decide_eq_false hc2 (Int.ofNat_lt.2 h)
        refine ⟨k - 1, by omega, i + 1, by omega, ?_, rfl, (cOks_take hi).2 ⟨t, by omega, by omega, hw⟩⟩
        rw [wrap_succ (by omega)]
      · rintro _ h' ⟨rfl, hw⟩
        exact hbad _ (Less.refl _) fun hh => hw hh.2.2
    · refine ⟨mayO (h.row [.int .i64 N, .int .i64 D, cv]) h.next cv undef cs.length i 0 0 0 True True, ?_⟩
      rw [may_out_ev]
      refine ⟨g1.load2, hv'.len 23, fun hc => absurd (Int.ofNat_lt.1 (of_decide_eq_true hc)) hi, fun _ => .inl ⟨rfl, (), (show Less (keepF [] (fr17 h.next i)) _ from keepF_less _ _), rfl, ?_⟩⟩
      rwa [List.take_of_length_le (by omega)] at t
  · rintro _ h' ⟨rfl, hh⟩
    have h1 := of_decide_eq_false h1
    have h2 := of_decide_eq_false h2
    have h9 : (maxNum : Int) = Int.ofNat 1099511627776 := rfl
    have h3 : ¬ cs.length < 1 := fun h => of_decide_eq_false h3 (Int.ofNat_lt.2 h)
    have h4 : ¬ 21 < cs.length := fun h => of_decide_eq_false h4 (Int.ofNat_lt.2 h)
    exact ⟨by rw [decide_eq_true (show mayN N cs from ⟨by omega, by omega, by omega, by omega, hh⟩)], k1⟩
  · rintro _ h' ⟨rfl, hh⟩
    exact hno fun hm => hh hm.2.2.2.2
end
end Go.Proofs.YtkkbpknpongmfaaGreatDoor

/- The document's Decode: its loops. -/
namespace Go.Proofs.YtkkbpknpongmfaaGreatDoor
open Go Go.Abs Classical
noncomputable section
/-! The group's cell, as the document's type. -/
theorem ti47 : E.ti.get 47 = some Tryz.t47 := by kernel_rfl
theorem un47' : (match E.und 47 with | some d => aggD d | none => false) = true := by kernel_rfl
theorem un47 : ∃ d, E.und 47 = some d ∧ aggD d = true := by
  have h := un47'
  split at h
  · rename_i d hd; exact ⟨d, hd, h⟩
  · cases h
theorem Grp.loadAll' {q : Nat} {h : AHeap} {N M : Int} {cv : Value} (g : Grp q h N M cv) : E.loadVar h 47 q 0 = some (.agg #[.int .i64 N, .int .i64 M, cv]) := by
  obtain ⟨cs, hg, h0, h1, h2⟩ := g.get
  obtain ⟨d, hd, ha⟩ := un47
  unfold Env.loadVar
  simp only [ti47, hd, ha, cond_true, show (Tryz.t47).size = 3 from rfl, AHeap.loadN, hg, PT.gets, h0, h1, h2]
theorem Grp.storeAll' {q : Nat} {h : AHeap} {N M : Int} {cv : Value} (g : Grp q h N M cv) (N' M' : Int) {v : Value} (ho : oneCell v = true) : ∃ h', E.storeVar h 47 q 0 (.agg #[.int .i64 N', .int .i64 M', v]) = some h' ∧ Grp q h' N' M' v ∧ KeepR q h.next h h' := by
  obtain ⟨h', e, r⟩ := g.storeAll N' M' ho
  refine ⟨h', ?_, r⟩
  rw [← e]
  unfold Env.storeVar
  simp only [ti47, ti42, show (Tryz.t47).size = 3 from rfl, show (Tryz.t42).size = 3 from rfl]
theorem Grp.store0 {q : Nat} {h : AHeap} {N M : Int} {cv : Value} (g : Grp q h N M cv) (N' : Int) : ∃ h', E.storeVar h 3 q 0 (.int .i64 N') = some h' ∧ Grp q h' N' M cv ∧ KeepR q h.next h h' := by
  obtain ⟨cs, hg, h0, h1, h2⟩ := g.get
  refine ⟨h.set q (.cells (cs.puts 0 [.int .i64 N']) (.rw [])), store_cell ti3 rfl hg h0 rfl rfl, ⟨g.lt, cs.puts 0 [.int .i64 N'], ?_, ?_, ?_, ?_⟩, KeepR.set q h.next h _⟩
  · rw [AHeap.get_set, if_pos rfl]
  · rw [PT.get_puts]; simp
  · rw [PT.get_puts]; simpa using h1
  · rw [PT.get_puts]; simpa using h2
theorem Grp.store1 {q : Nat} {h : AHeap} {N M : Int} {cv : Value} (g : Grp q h N M cv) (M' : Int) : ∃ h', E.storeVar h 3 q 1 (.int .i64 M') = some h' ∧ Grp q h' N M' cv ∧ KeepR q h.next h h' := by
  obtain ⟨cs, hg, h0, h1, h2⟩ := g.get
  refine ⟨h.set q (.cells (cs.puts 1 [.int .i64 M']) (.rw [])), store_cell ti3 rfl hg h1 rfl rfl, ⟨g.lt, cs.puts 1 [.int .i64 M'], ?_, ?_, ?_, ?_⟩, KeepR.set q h.next h _⟩
  · rw [AHeap.get_set, if_pos rfl]
  · rw [PT.get_puts]; simpa using h0
  · rw [PT.get_puts]; simp
  · rw [PT.get_puts]; simpa using h2

/-! The loops. -/
abbrev fr18 (v : Value) (g p q n i : Nat) : AFr := fr 82 [(0, v), (2, ptr g), (4, ptr p), (5, ptr q), (6, .int .i64 (.ofNat n)), (7, .int .i64 (.ofNat i))]
abbrev fr18w (v : Value) (g p q n i : Nat) (w : Value) : AFr := fr 82 [(0, v), (2, ptr g), (4, ptr p), (5, ptr q), (6, .int .i64 (.ofNat n)), (7, .int .i64 (.ofNat i)), (8, w)]
abbrev fr18i (v : Value) (g p q n i : Nat) (w : Value) (k j : Nat) : AFr := fr 82 [(0, v), (2, ptr g), (4, ptr p), (5, ptr q), (6, .int .i64 (.ofNat n)), (7, .int .i64 (.ofNat i)), (8, w), (9, .int .i64 (.ofNat k)), (10, .int .i64 (.ofNat j))]
abbrev fr18x (v : Value) (g p q : Nat) : AFr := fr 82 [(0, v), (2, ptr g), (4, ptr p), (5, ptr q)]
def diA (e : Int) (l : List UInt8) (c : (Value × Value × AHeap) → AHeap → Prop) : Ans := .br (.val (.int .i64 e) (.br (.call (fun a : Value × Value × AHeap => a.1) c fun a _ => .val (str l) (.eff a.2.1 a.2.2 .stop)) .stop)) .stop
theorem di_ev (v w : Value) (g p q n i k j : Nat) (e : Int) (l : List UInt8) (h : AHeap) (c : (Value × Value × AHeap) → AHeap → Prop) (R : AExit → AFr → AHeap → Prop) : orC PP E (bodyOf 18 1) (fr18i v g p q n i w k j) h (diA e l c) (fun x f h' _ => R x (keepF [0,2,4,5,6,7,8,9,10] f) h') =
    ((decide (Int.ofNat j < Int.ofNat k) = true → E.loadVar h 3 p 1 = some (.int .i64 e) ∧ ((decide (e = 0) = true → SC PP 47 [ptr p, .int .i64 (.ofNat 512)] h (fun r h' => ∃ a : Value × Value × AHeap, r = .ret a.1 ∧ c a h') ∧ ∀ (a : Value × Value × AHeap) (h' : AHeap), c a h' →
        E.vConv h' 50 9 a.1 = some (str l) ∧ E.appendA (h'.row [str l]) 23 23 w (.slice (some ⟨h'.next, 0, none⟩) 1 2) = some (a.2.1, a.2.2) ∧ R .normal (fr 82 [(0, v), (2, ptr g), (4, ptr p), (5, ptr q), (6, .int .i64 (.ofNat n)), (7, .int .i64 (.ofNat i)), (8, a.2.1), (9, .int .i64 (.ofNat k)), (10, .int .i64 (IntKind.i64.wrap (.ofNat j.succ)))]) a.2.2) ∧
        (decide (e = 0) = false → R (.exit 2) (fr18i v g p q n i w k j) h))) ∧
     (decide (Int.ofNat j < Int.ofNat k) = false → R (.exit 2) (fr18i v g p q n i w k j) h)) := by kernel_rfl
/-- What is there behind the inner loop. -/
structure XO where
  b : Nat
  n : Nat
  k : Nat
  cv : Value
  u : Value
  h3 : AHeap
  h4 : AHeap
def doA0 (v : Value) (g p q n i : Nat) (e : Int) (k : Nat) (c1 : Unit → AHeap → Prop) (ca : XO → AHeap → Prop) : Ans :=
  .br (.val (.int .i64 e) (.br (.call (fun _ : Unit => .int .i64 (.ofNat k)) c1 fun _ _ => .loop [0,2,4,5,6,7,8,9,10] 2 (fun a : XO => fr18w v g p q n i (.slice none 0 0)) ca (fun a _ => .val a.cv (.eff a.u a.h3 (.eff undef a.h4 .stop))) (fun _ : Unit => fr 82 []) (fun _ _ => False) (fun _ _ => .stop)) .stop)) .stop
theorem do_ev0 (v : Value) (g p q n i : Nat) (e : Int) (k : Nat) (h : AHeap) (c1 : Unit → AHeap → Prop) (ca : XO → AHeap → Prop) (R : AExit → AFr → AHeap → Prop) : orC PP E (bodyOf 18 0) (fr18 v g p q n i) h (doA0 v g p q n i e k c1 ca) (fun x f h' _ => R x (keepF [0,2,4,5,6,7] f) h') =
    ((decide (Int.ofNat i < Int.ofNat n) = true → E.loadVar h 3 p 1 = some (.int .i64 e) ∧ ((decide (e = 0) = true → SC PP 45 [ptr p, .int .i64 (.ofNat 40)] h (fun r h' => ∃ _ : Unit, r = .ret (.int .i64 (.ofNat k)) ∧ c1 () h') ∧ ∀ (_ : Unit) (h1 : AHeap), c1 () h1 →
        ((∀ rd, SW PP rd (.loop (bodyOf 18 1)) (fr18i v g p q n i (.slice none 0 0) k 0) h1 (LQ 2 (fun a : XO => fr18w v g p q n i (.slice none 0 0)) ca (fun _ : Unit => fr 82 []) (fun _ _ => False))) ∧
         (∀ (a : XO) (h2 : AHeap), ca a h2 → E.loadVar h2 30 q 2 = some a.cv ∧ E.appendA (h2.row [.slice none 0 0]) 30 30 a.cv (.slice (some ⟨h2.next, 0, none⟩) 1 2) = some (a.u, a.h3) ∧ E.storeVar a.h3 30 q 2 a.u = some a.h4 ∧ undef = undef ∧
            R .normal (fr 82 [(0, v), (2, ptr g), (4, ptr p), (5, ptr q), (6, .int .i64 (.ofNat n)), (7, .int .i64 (IntKind.i64.wrap (.ofNat i.succ)))]) a.h4) ∧
         ∀ (_ : Unit) (h2 : AHeap), False → R .ret (fr 82 []) h2)) ∧
        (decide (e = 0) = false → R (.exit 0) (fr18 v g p q n i) h))) ∧
     (decide (Int.ofNat i < Int.ofNat n) = false → R (.exit 0) (fr18 v g p q n i) h)) := by kernel_rfl
def doA1 (v : Value) (g p q n i : Nat) (e : Int) (k : Nat) (c1 : Unit → AHeap → Prop) (ca : XO → AHeap → Prop) : Ans :=
  .br (.val (.int .i64 e) (.br (.call (fun _ : Unit => .int .i64 (.ofNat k)) c1 fun _ _ => .loop [0,2,4,5,6,7,8,9,10] 2 (fun a : XO => fr18w v g p q n i (.slice (some ⟨a.b, 0, none⟩) a.n a.k)) ca (fun a _ => .val a.cv (.eff a.u a.h3 (.eff undef a.h4 .stop))) (fun _ : Unit => fr 82 []) (fun _ _ => False) (fun _ _ => .stop)) .stop)) .stop
theorem do_ev1 (v : Value) (g p q n i : Nat) (e : Int) (k : Nat) (h : AHeap) (c1 : Unit → AHeap → Prop) (ca : XO → AHeap → Prop) (R : AExit → AFr → AHeap → Prop) : orC PP E (bodyOf 18 0) (fr18 v g p q n i) h (doA1 v g p q n i e k c1 ca) (fun x f h' _ => R x (keepF [0,2,4,5,6,7] f) h') =
    ((decide (Int.ofNat i < Int.ofNat n) = true → E.loadVar h 3 p 1 = some (.int .i64 e) ∧ ((decide (e = 0) = true → SC PP 45 [ptr p, .int .i64 (.ofNat 40)] h (fun r h' => ∃ _ : Unit, r = .ret (.int .i64 (.ofNat k)) ∧ c1 () h') ∧ ∀ (_ : Unit) (h1 : AHeap), c1 () h1 →
        ((∀ rd, SW PP rd (.loop (bodyOf 18 1)) (fr18i v g p q n i (.slice none 0 0) k 0) h1 (LQ 2 (fun a : XO => fr18w v g p q n i (.slice (some ⟨a.b, 0, none⟩) a.n a.k)) ca (fun _ : Unit => fr 82 []) (fun _ _ => False))) ∧
         (∀ (a : XO) (h2 : AHeap), ca a h2 → E.loadVar h2 30 q 2 = some a.cv ∧ E.appendA (h2.row [.slice (some ⟨a.b, 0, none⟩) a.n a.k]) 30 30 a.cv (.slice (some ⟨h2.next, 0, none⟩) 1 2) = some (a.u, a.h3) ∧ E.storeVar a.h3 30 q 2 a.u = some a.h4 ∧ undef = undef ∧
            R .normal (fr 82 [(0, v), (2, ptr g), (4, ptr p), (5, ptr q), (6, .int .i64 (.ofNat n)), (7, .int .i64 (IntKind.i64.wrap (.ofNat i.succ)))]) a.h4) ∧
         ∀ (_ : Unit) (h2 : AHeap), False → R .ret (fr 82 []) h2)) ∧
        (decide (e = 0) = false → R (.exit 0) (fr18 v g p q n i) h))) ∧
     (decide (Int.ofNat i < Int.ofNat n) = false → R (.exit 0) (fr18 v g p q n i) h)) := by kernel_rfl

theorem AftI.keep {p : Nat} {h h1 h2 : AHeap} {s : St2} (a : AftI p h s h1) {B : Nat} (k : Keep B h1 h2) (hB : h.next ≤ B) (hp : p < h.next) : AftI p h s h2 := ⟨a.1.keep k (Nat.lt_of_lt_of_le hp hB), a.2.trans ((k.keepR p).mono hB)⟩
theorem argsi_loop {v : Value} {g p q n i m : Nat} {s : St2} {H : AHeap} {rd : Option Nat} (hm : m < 1000) (h0 : 0 < m → s.2 = 0) (r : RdI False p H s) :
    SW PP rd (.loop (bodyOf 18 1)) (fr18i v g p q n i (.slice none 0 0) m 0) H (LQ 2 (fun w : Value => fr18w v g p q n i w) (fun w h' => ∃ j, j ≤ m ∧ (j = m ∨ (argsN j s).2.2 ≠ 0) ∧ (0 < m → 0 < j) ∧ (j = 0 → w = .slice none 0 0) ∧ Own H.next h' w ((argsN j s).1.map str) ∧ AftI p H (argsN j s).2 h') (fun _ : Unit => fr 82 []) (fun _ _ => False)) := by
  refine loop_or [0,2,4,5,6,7,8,9,10] (fun k f h => ∃ j w, j + k = m ∧ f = fr18i v g p q n i w m j ∧ (j = 0 → w = .slice none 0 0) ∧ Own H.next h w ((argsN j s).1.map str) ∧ AftI p H (argsN j s).2 h) ?_ (k := m) ⟨0, .slice none 0 0, by omega, rfl, fun _ => rfl, .nil, r, KeepR.refl _ _ _⟩
  rintro k f h ⟨j, w, hk, rfl, hnil, ho, ha⟩
  refine ⟨diA (argsN j s).2.2 (rdBy 512 (argsN j s).2).1 (fun a h' => E.vConv h' 50 9 a.1 = some (str (rdBy 512 (argsN j s).2).1) ∧ E.appendA (h'.row [str (rdBy 512 (argsN j s).2).1]) 23 23 w (.slice (some ⟨h'.next, 0, none⟩) 1 2) = some (a.2.1, a.2.2) ∧
      Own H.next a.2.2 a.2.1 ((argsN (j + 1) s).1.map str) ∧ AftI p H (argsN (j + 1) s).2 a.2.2), ?_⟩
  rw [di_ev]
  have hex : (j = m ∨ (argsN j s).2.2 ≠ 0) → LQ 2 (fun w : Value => fr18w v g p q n i w) (fun w h' => ∃ j, j ≤ m ∧ (j = m ∨ (argsN j s).2.2 ≠ 0) ∧ (0 < m → 0 < j) ∧ (j = 0 → w = .slice none 0 0) ∧ Own H.next h' w ((argsN j s).1.map str) ∧ AftI p H (argsN j s).2 h') (fun _ : Unit => fr 82 []) (fun _ _ => False) (.exit 2) (keepF [0,2,4,5,6,7,8,9,10] (fr18i v g p q n i w m j)) h := by
    intro hc
    refine .inl ⟨rfl, w, (show Less (keepF [0,2,4,5,6,7,8] (fr18i v g p q n i w m j)) _ from keepF_less _ _), j, by omega, hc, fun hm0 => ?_, hnil, ho, ha⟩
    rcases Nat.eq_zero_or_pos j with h1 | h1
    · subst h1
      rcases hc with hc | hc
      · omega
      · exact absurd (h0 hm0) hc
    · exact h1
  refine ⟨fun hc => ⟨ha.1.load1, fun hz => ⟨(rdi_by ha.1 (mx := 512) (by decide)).mono ?_, ?_⟩, fun hz => hex (.inr (of_decide_eq_false hz))⟩, fun hc => hex (.inl ?_)⟩
  · rintro x h1 ⟨⟨u, rfl, hu⟩, ha1⟩
    have hlen : ((argsN j s).1.map str).length = j := by rw [List.length_map, argsN_len]
    have hc := Int.ofNat_lt.1 (of_decide_eq_true hc)
    have hl1 : H.next ≤ h1.next := Nat.le_trans ha.2.next ha1.2.next
    obtain ⟨v', h', e, o', k'⟩ := own_push strsOk hl1 (own_after ho ha1.2 (by have := r.lt; omega)) (show oneCell (str (rdBy 512 (argsN j s).2).1) = true from rfl) (by omega) (by omega)
    refine ⟨(u, v', h'), rfl, conv_bys (h' := h1) hu.sl, e, ?_, ?_⟩
    · simpa [argsN] using o'
    · exact (ha.trans ha1).keep k' (Nat.le_refl _) r.lt
  · rintro a h' ⟨h1, h2, h3, h4⟩
    have hc := Int.ofNat_lt.1 (of_decide_eq_true hc)
    refine ⟨h1, h2, k - 1, by omega, j + 1, a.2.1, by omega, ?_, fun h => absurd h (Nat.succ_ne_zero j), h3, h4⟩
    rw [wrap_succ (by omega)]
  · have hc : ¬ j < m := fun h => of_decide_eq_false hc (Int.ofNat_lt.2 h)
    omega

/-- What holds at the outer loop's head. -/
structure StI (g p q B0 : Nat) (N M : Int) (H h0 : AHeap) (s : St2) (i : Nat) (h : AHeap) (cs : List Ws) (s' : St2) (cv : Value) (lv : List Value) (F : Nat → Prop) : Prop where
  dec : rc i s = (cs, s') ∨ (s'.2 ≠ 0 ∧ (rc i s).2.2 ≠ 0)
  len : cs.length = i
  rd : RdI False p h s'
  res : Grp g h 0 0 (.slice none 0 0)
  grp : Grp q h N M cv
  own : OwnF F h cv lv
  lists : Lists (fun b => F b ∨ b = p ∨ b = q ∨ b = g) h lv cs
  lo : ∀ b, F b → H.next ≤ b
  hi : ∀ b, h.next ≤ b → F b
  keep : Keep B0 h0 h
  next : H.next ≤ h.next
  bd : ∀ c ∈ cs, c.length ≤ 40
theorem StI.read {g p q B0 : Nat} {N M : Int} {H h0 : AHeap} {s : St2} {i : Nat} {h h' : AHeap} {cs : List Ws} {s' s2 : St2} {cv : Value} {lv : List Value} {F : Nat → Prop} (pl : Pl g p q B0 H) (t : StI g p q B0 N M H h0 s i h cs s' cv lv F) (a : AftI p h s2 h') :
    Grp g h' 0 0 (.slice none 0 0) ∧ Grp q h' N M cv ∧ OwnF F h' cv lv ∧ Lists (fun b => F b ∨ b = p ∨ b = q ∨ b = g) h' lv cs ∧ Keep B0 h0 h' ∧ H.next ≤ h'.next := by
  have hn := t.next
  have h1 := pl.gl
  have h2 := pl.pl
  have h3 := pl.ql
  refine ⟨t.res.keep (a.2.get g (by omega) (by have := pl.gp; omega)) a.2.next, t.grp.keep (a.2.get q (by omega) (by have := pl.pq; omega)) a.2.next, own_after t.own a.2 (fun hf => by have := t.lo p hf; omega), t.lists.keep a.2.next ?_ (fun _ _ h => h), t.keep.trans ⟨a.2.ng, a.2.next, fun b hb => a.2.get b (by have := pl.p0; omega) (by have := pl.p0; omega), fun b hb => a.2.gr b (by have := pl.p0; omega)⟩, Nat.le_trans hn a.2.next⟩
  intro b hb hF
  exact a.2.get b hb fun e => hF (.inr (.inl e))
theorem cmdsi_loop {v : Value} {g p q n B0 : Nat} {s : St2} {N M : Int} {H h0 : AHeap} {rd : Option Nat} (pl : Pl g p q B0 H) (hn : n ≤ 21) (t0 : ∃ cv lv F, StI g p q B0 N M H h0 s 0 H [] s cv lv F) :
    SW PP rd (.loop (bodyOf 18 0)) (fr18 v g p q n 0) H (LQ 0 (fun _ : Unit => fr18x v g p q) (fun _ h' => ∃ i cs s' cv lv F, i ≤ n ∧ (i = n ∨ s'.2 ≠ 0) ∧ StI g p q B0 N M H h0 s i h' cs s' cv lv F) (fun _ : Unit => fr 82 []) (fun _ _ => False)) := by
  obtain ⟨cv0, lv0, F0, t0⟩ := t0
  refine loop_or [0,2,4,5,6,7] (fun k f h => ∃ i, i + k = n ∧ f = fr18 v g p q n i ∧ ∃ cs s' cv lv F, StI g p q B0 N M H h0 s i h cs s' cv lv F) ?_ (k := n) ⟨0, by omega, rfl, _, _, _, _, _, t0⟩
  rintro k f h ⟨i, hk, rfl, cs, s', cv, lv, F, t⟩
  have hle := rdNum_le 40 s'
  have hex : (i = n ∨ s'.2 ≠ 0) → LQ 0 (fun _ : Unit => fr18x v g p q) (fun _ h' => ∃ i cs s' cv lv F, i ≤ n ∧ (i = n ∨ s'.2 ≠ 0) ∧ StI g p q B0 N M H h0 s i h' cs s' cv lv F) (fun _ : Unit => fr 82 []) (fun _ _ => False) (.exit 0) (keepF [0,2,4,5,6,7] (fr18 v g p q n i)) h := fun hc =>
    .inl ⟨rfl, (), (show Less (keepF [0,2,4,5] (fr18 v g p q n i)) _ from keepF_less _ _), i, cs, s', cv, lv, F, by omega, hc, t⟩
  have c45 : SC PP 45 [ptr p, .int .i64 (.ofNat 40)] h (fun r h' => ∃ _ : Unit, r = .ret (.int .i64 (.ofNat (rdNum 40 s').1)) ∧ AftI p h (rdNum 40 s').2 h') := (rdi_num t.rd (by decide)).mono fun _ _ q => ⟨(), q⟩
  -- a command more
  have step : ∀ (h1 h2 : AHeap) (w : Value) (j : Nat), i < n → s'.2 = 0 → AftI p h (rdNum 40 s').2 h1 → j ≤ (rdNum 40 s').1 → (j = (rdNum 40 s').1 ∨ (argsN j (rdNum 40 s').2).2.2 ≠ 0) → Own h1.next h2 w ((argsN j (rdNum 40 s').2).1.map str) → AftI p h1 (argsN j (rdNum 40 s').2).2 h2 →
      ∃ u h3 h4, E.loadVar h2 30 q 2 = some cv ∧ E.appendA (h2.row [w]) 30 30 cv (.slice (some ⟨h2.next, 0, none⟩) 1 2) = some (u, h3) ∧ E.storeVar h3 30 q 2 u = some h4 ∧ ∃ cs s' cv lv F, StI g p q B0 N M H h0 s (i + 1) h4 cs s' cv lv F := by
    intro h1 h2 w j hin hs0 a1 hj hj2 ow a2
    have a12 := a1.trans a2
    obtain ⟨g1, g2, g3, g4, g5, g6⟩ := t.read pl a12
    have hn1 := a2.2.next
    have hn0 := a1.2.next
    have hlen : ((argsN j (rdNum 40 s').2).1.map str).length = j := by rw [List.length_map, argsN_len]
    have hw1 := own_one ow
    have oF : OwnF (fun x => (F x ∧ x < h.next) ∨ h2.next ≤ x) h2 cv lv :=
      own_after (t.own.weak fun b h1 h2 => .inl ⟨h2, h1⟩) a12.2 (by
        have := t.lo p; have := pl.pl; have := a12.1.lt
        rintro (⟨h1, _⟩ | h1)
        · have := t.lo p h1; omega
        · omega)
    have hll : lv.length = i := by rw [t.lists.len]; exact t.len
    obtain ⟨u, h3, e3, o3', k3⟩ := ownF_push listsOk (fun x hx => .inr hx) oF hw1 (by omega) (by omega)
    have q3' : Grp q h3 N M cv := g2.keep (k3.get q g2.lt (by
      have := pl.ql; have := t.next
      rintro (⟨h1, _⟩ | h1)
      · have := t.lo q h1; omega
      · omega)) k3.next
    have hu : cellsL u = [u] ∧ oneCell u = true := by
      rcases o3'.shape with rfl | ⟨_, _, _, rfl⟩ <;> exact ⟨rfl, rfl⟩
    obtain ⟨h4, e4, r4, k4⟩ := q3'.store2 hu.1 hu.2
    have hgl := pl.gl
    have hpl := pl.pl
    have hql := pl.ql
    have hnx := t.next
    have hlo : ∀ x, x < H.next → ¬ ((F x ∧ x < h.next) ∨ h2.next ≤ x) := by
      rintro x hx (⟨h1, _⟩ | h1)
      · have := t.lo x h1; omega
      · omega
    have kk : Keep B0 h2 h3 := ⟨k3.ng, k3.next, fun x hx => k3.get x (by have := pl.p0; omega) (hlo x (by have := pl.p0; omega)), fun x hx => k3.gr x (by have := pl.p0; omega)⟩
    have k4' := KeepR.toKeep k4 pl.q0 (by have := pl.p0; have := k3.next; omega)
    refine ⟨u, h3, h4, g2.load2, e3, e4, cs ++ [(argsN j (rdNum 40 s').2).1], (argsN j (rdNum 40 s').2).2, u, lv ++ [w], (fun x => (F x ∧ x < h.next) ∨ h2.next ≤ x), ?_⟩
    have hrc : rc i s = (cs, s') := t.dec.resolve_right fun h => h.1 hs0
    refine ⟨?_, ?_, ?_, ?_, r4, ?_, ?_, ?_, ?_, ?_, ?_, ?_⟩
    · rcases hj2 with hj2 | hj2
      · left; simp only [rc, hrc, hj2]
      · right
        refine ⟨hj2, ?_⟩
        simp only [rc, hrc]
        exact argsN_bad_le hj hj2
    · rw [List.length_append, t.len]; rfl
    · exact (a12.1.keep (B := H.next) ⟨k3.ng, k3.next, fun x hx => k3.get x (by omega) (hlo x hx), fun x hx => k3.gr x (by omega)⟩ hpl).keep (B := q) (KeepR.toKeep k4 (Nat.le_refl q) (by have := k3.next; omega)) pl.pq
    · exact (g1.keep (k3.get g (by omega) (hlo g hgl)) k3.next).keep (k4.get g (by have := k3.next; omega) (by have := pl.gp; have := pl.pq; omega)) k4.next
    · exact own_after o3' k4 (hlo q hql)
    · have hg : ∀ x, x < h2.next → ¬ ((F x ∧ x < h.next) ∨ h2.next ≤ x) → x ≠ q → h4.get x = h2.get x := fun x hx hf hq => (k4.get x (by have := k3.next; omega) hq).trans (k3.get x hx hf)
      have hn4 : h2.next ≤ h4.next := Nat.le_trans k3.next k4.next
      refine .snoc (g4.keep hn4 (fun x hx hf => hg x hx (fun h5 => h5.elim (fun h6 => hf (.inl h6.1)) (fun h6 => by omega)) (fun h5 => hf (.inr (.inr (.inl h5))))) ?_) ?_ hw1
      · rintro x hx hf (h5 | h5)
        · exact h5.elim (fun h6 => hf (.inl h6.1)) (fun h6 => by omega)
        · exact hf (.inr h5)
      · generalize hL : ((argsN j (rdNum 40 s').2).1.map str) = L at ow hlen
        cases ow with
        | nil => exact .nil
        | row o1 o2 o3 o4 o5 o6 o7 =>
          rename_i b qn sn
          have hbF : ¬ ((F b ∧ b < h.next) ∨ h2.next ≤ b) := by rintro (⟨_, h1⟩ | h1) <;> omega
          refine .row (by omega) ?_ ?_
          · rintro (h5 | h5 | h5 | h5)
            · exact hbF h5
            · omega
            · omega
            · omega
          · rw [loadN_get (hg b o2 hbF (by omega))]
            exact loadN_all o6
    · rintro x (⟨h1, _⟩ | h1)
      · exact t.lo x h1
      · omega
    · intro x hx
      exact .inr (by have := k3.next; have := k4.next; omega)
    · exact (g5.trans kk).trans k4'
    · have := k3.next; have := k4.next; omega
    · intro c hc
      rcases List.mem_append.1 hc with hc | hc
      · exact t.bd c hc
      · simp at hc; subst hc; rw [argsN_len]; omega
  by_cases hin : i < n
  · by_cases hs0 : s'.2 = 0
    · have h0' : 0 < (rdNum 40 s').1 → (rdNum 40 s').2.2 = 0 := by
        intro hp
        unfold rdNum at hp ⊢
        split
        · rename_i h1
          split
          · exact h1
          · rename_i h2; rw [if_pos h1, if_neg h2] at hp; simp at hp
        · rename_i h1; rw [if_neg h1] at hp; simp at hp
      by_cases hm0 : (rdNum 40 s').1 = 0
      · refine ⟨doA0 v g p q n i s'.2 (rdNum 40 s').1 (fun _ h' => AftI p h (rdNum 40 s').2 h') (fun a h2 => E.loadVar h2 30 q 2 = some a.cv ∧ E.appendA (h2.row [.slice none 0 0]) 30 30 a.cv (.slice (some ⟨h2.next, 0, none⟩) 1 2) = some (a.u, a.h3) ∧ E.storeVar a.h3 30 q 2 a.u = some a.h4 ∧ ∃ cs s' cv lv F, StI g p q B0 N M H h0 s (i + 1) a.h4 cs s' cv lv F), ?_⟩
        rw [do_ev0]
        refine ⟨fun _ => ⟨t.rd.load1, fun _ => ⟨c45, fun _ h1 a1 => ⟨fun rd => ?_, ?_, fun _ _ e => e.elim⟩⟩, fun hc => absurd hs0 (of_decide_eq_false hc)⟩, fun hc => absurd (Int.ofNat_lt.2 hin) (of_decide_eq_false hc)⟩
        · refine (argsi_loop (v := v) (g := g) (q := q) (n := n) (i := i) (m := (rdNum 40 s').1) (rd := rd) (by omega) h0' a1.1).mono ?_
          intro x f h2 q2
          refine LQ.mono q2 (fun w q3 => ?_) (fun b q3 => q3.elim)
          obtain ⟨j, hj, hj2, _, hnil, ow, a2⟩ := q3
          have hw : w = .slice none 0 0 := hnil (by omega)
          subst hw
          obtain ⟨u, h3, h4, e1, e2, e3, e4⟩ := step h1 h2 (.slice none 0 0) j hin hs0 a1 hj hj2 ow a2
          exact ⟨⟨0, 0, 0, cv, u, h3, h4⟩, rfl, e1, e2, e3, e4⟩
        · rintro a h2 ⟨e1, e2, e3, e4⟩
          refine ⟨e1, e2, e3, rfl, k - 1, by omega, i + 1, by omega, ?_, e4⟩
          rw [wrap_succ (by omega)]
      · refine ⟨doA1 v g p q n i s'.2 (rdNum 40 s').1 (fun _ h' => AftI p h (rdNum 40 s').2 h') (fun a h2 => E.loadVar h2 30 q 2 = some a.cv ∧ E.appendA (h2.row [.slice (some ⟨a.b, 0, none⟩) a.n a.k]) 30 30 a.cv (.slice (some ⟨h2.next, 0, none⟩) 1 2) = some (a.u, a.h3) ∧ E.storeVar a.h3 30 q 2 a.u = some a.h4 ∧ ∃ cs s' cv lv F, StI g p q B0 N M H h0 s (i + 1) a.h4 cs s' cv lv F), ?_⟩
        rw [do_ev1]
        refine ⟨fun _ => ⟨t.rd.load1, fun _ => ⟨c45, fun _ h1 a1 => ⟨fun rd => ?_, ?_, fun _ _ e => e.elim⟩⟩, fun hc => absurd hs0 (of_decide_eq_false hc)⟩, fun hc => absurd (Int.ofNat_lt.2 hin) (of_decide_eq_false hc)⟩
        · refine (argsi_loop (v := v) (g := g) (q := q) (n := n) (i := i) (m := (rdNum 40 s').1) (rd := rd) (by omega) h0' a1.1).mono ?_
          intro x f h2 q2
          refine LQ.mono q2 (fun w q3 => ?_) (fun b q3 => q3.elim)
          obtain ⟨j, hj, hj2, hj3, _, ow, a2⟩ := q3
          have hjp : 0 < j := hj3 (by omega)
          have hw : ∃ b m k, w = .slice (some ⟨b, 0, none⟩) m k := by
            have hlen : ((argsN j (rdNum 40 s').2).1.map str).length = j := by rw [List.length_map, argsN_len]
            generalize hL : ((argsN j (rdNum 40 s').2).1.map str) = L at ow hlen
            cases ow with
            | nil => simp at hlen; omega
            | row => exact ⟨_, _, _, rfl⟩
          obtain ⟨b, m, kk, rfl⟩ := hw
          obtain ⟨u, h3, h4, e1, e2, e3, e4⟩ := step h1 h2 _ j hin hs0 a1 hj hj2 ow a2
          exact ⟨⟨b, m, kk, cv, u, h3, h4⟩, rfl, e1, e2, e3, e4⟩
        · rintro a h2 ⟨e1, e2, e3, e4⟩
          refine ⟨e1, e2, e3, rfl, k - 1, by omega, i + 1, by omega, ?_, e4⟩
          rw [wrap_succ (by omega)]
    · refine ⟨doA0 v g p q n i s'.2 0 (fun _ _ => False) (fun _ _ => False), ?_⟩
      rw [do_ev0]
      exact ⟨fun _ => ⟨t.rd.load1, fun hc => absurd (of_decide_eq_true hc) hs0, fun _ => hex (.inr hs0)⟩, fun hc => absurd (Int.ofNat_lt.2 hin) (of_decide_eq_false hc)⟩
  · refine ⟨doA0 v g p q n i 0 0 (fun _ _ => False) (fun _ _ => False), ?_⟩
    rw [do_ev0]
    exact ⟨fun hc => absurd (Int.ofNat_lt.1 (of_decide_eq_true hc)) hin, fun _ => hex (.inl (by omega))⟩
end
end Go.Proofs.YtkkbpknpongmfaaGreatDoor

/- The document's Decode. -/
namespace Go.Proofs.YtkkbpknpongmfaaGreatDoor
open Go Go.Abs Classical
noncomputable section
/-- What is there behind the copy; behind the loop. -/
structure X0 where
  b : Nat
  n : Nat
  k : Nat
  hs : AHeap
structure XE where
  e : Int
  agg : Value
  hz : AHeap
abbrev failV : Value := .tuple #[zeroG, .bool false]
theorem results18 (g : Nat) (b : Bool) (h : AHeap) : E.results Tryz.f18 (fr 82 [(2, ptr g), (3, .bool b)]) h = match (match E.loadVar h 47 g 0 with | some v => some [v, .bool b] | none => none) with | some vs => some (tupleOf vs) | none => none := by kernel_rfl
theorem Grp.res18 {g : Nat} {h : AHeap} {N M : Int} {cv : Value} (r : Grp g h N M cv) (b : Bool) : E.results Tryz.f18 (fr 82 [(2, ptr g), (3, .bool b)]) h = some (.tuple #[.agg #[.int .i64 N, .int .i64 M, cv], .bool b]) := by
  rw [results18, r.loadAll']; rfl
abbrev zr : List Value := [.int .i64 (.ofNat 0), .int .i64 (.ofNat 0), .slice none 0 0]
def rdA0b (v : Value) (g N a : Nat) (D : Int) (n : Nat) (c0 : X0 → AHeap → Prop) (c1 c2 : AHeap → AHeap → AHeap → Prop) (c3 : AHeap → Unit → AHeap → Prop) (ca : AHeap → XE → AHeap → Prop) (cm : XE → AHeap → AHeap → AHeap → Prop) (cm' : XE → AHeap → Unit → AHeap → Prop) (ce : XE → AHeap → Value → AHeap → Prop) (cs : XE → AHeap → AHeap → AHeap → Prop) : Ans :=
  .call (fun a : X0 => .slice none 0 0) c0 fun a0 hB => .eff undef a0.hs (.call (fun _ : AHeap => .int .i64 (.ofNat N)) (c1 hB) fun hs1 _ => .eff undef hs1 (.call (fun _ : AHeap => .int .u64 (.ofNat a)) (c2 hB) fun hs2 _ => .val (.int .i64 D) (.eff undef hs2 (.call (fun _ : Unit => .int .i64 (.ofNat n)) (c3 hB) fun _ _ =>
    .loop [0,2,4,5,6,7] 0 (fun _ : XE => fr18x v g hB.next hB.next.succ) (ca hB) (fun x h4 => .val (.int .i64 x.e) (.br (.eff undef x.hz (.val failV .stop)) (.val x.agg (.call (fun _ : AHeap => .bool false) (cm x h4) fun hz _ => .eff undef hz (.val failV .stop))))) (fun _ : Unit => fr 82 []) (fun _ _ => False) (fun _ _ => .stop)))))
theorem rd_ev0b (v : Value) (N a : Nat) (D : Int) (n : Nat) (h : AHeap) (c0 : X0 → AHeap → Prop) (c1 c2 : AHeap → AHeap → AHeap → Prop) (c3 : AHeap → Unit → AHeap → Prop) (ca : AHeap → XE → AHeap → Prop) (cm : XE → AHeap → AHeap → AHeap → Prop) (cm' : XE → AHeap → Unit → AHeap → Prop) (ce : XE → AHeap → Value → AHeap → Prop) (cs : XE → AHeap → AHeap → AHeap → Prop) (Q : ARet → AHeap → Prop) : orCall PP E 18 [v] h (rdA0b v h.next N a D n c0 c1 c2 c3 ca cm cm' ce cs) Q =
  (SC PP 44 [.slice none 0 0, v] (h.row zr) (fun r h' => ∃ a : X0, r = .ret (.slice none 0 0) ∧ c0 a h') ∧ ∀ (a0 : X0) (hB : AHeap), c0 a0 hB →
    (E.storeVar ((hB.row [.slice none 0 0, .int .i64 (.ofNat 0)]).row zr) 47 hB.next.succ 0 zeroG = some a0.hs ∧ undef = undef ∧ SC PP 45 [ptr hB.next, .int .i64 (.ofNat 1099511627776)] a0.hs (fun r h' => ∃ x : AHeap, r = .ret (.int .i64 (.ofNat N)) ∧ c1 hB x h') ∧ ∀ (hs1 h1 : AHeap), c1 hB hs1 h1 →
      (E.storeVar h1 3 hB.next.succ 0 (.int .i64 (.ofNat N)) = some hs1 ∧ undef = undef ∧ SC PP 46 [ptr hB.next, .int .i64 (.ofNat 8)] hs1 (fun r h' => ∃ x : AHeap, r = .ret (.int .u64 (.ofNat a)) ∧ c2 hB x h') ∧ ∀ (hs2 h2 : AHeap), c2 hB hs2 h2 →
        (some (Value.int .i64 (IntKind.i64.wrap (.ofNat a))) = some (.int .i64 D) ∧ E.storeVar h2 3 hB.next.succ 1 (.int .i64 D) = some hs2 ∧ undef = undef ∧ SC PP 45 [ptr hB.next, .int .i64 (.ofNat 21)] hs2 (fun r h' => ∃ _ : Unit, r = .ret (.int .i64 (.ofNat n)) ∧ c3 hB () h') ∧ ∀ (_ : Unit) (h3 : AHeap), c3 hB () h3 →
          ((∀ rd, SW PP rd (.loop (bodyOf 18 0)) (fr18 v h.next hB.next hB.next.succ n 0) h3 (LQ 0 (fun _ : XE => fr18x v h.next hB.next hB.next.succ) (ca hB) (fun _ : Unit => fr 82 []) (fun _ _ => False))) ∧
           (∀ (x : XE) (h4 : AHeap), ca hB x h4 → E.loadVar h4 3 hB.next 1 = some (.int .i64 x.e) ∧
             (((!(x.e == 0)) = true → E.storeVar h4 47 h.next 0 zeroG = some x.hz ∧ undef = undef ∧ E.results Tryz.f18 (fr 82 [(2, ptr h.next), (3, .bool false)]) x.hz = some failV ∧ Q (.ret failV) x.hz) ∧ ((!(x.e == 0)) = false → (E.loadVar h4 47 hB.next.succ 0 = some x.agg ∧ SC PP 17 [x.agg] h4 (fun r h' => ∃ hz : AHeap, r = .ret (.bool false) ∧ cm x h4 hz h') ∧ ∀ (hz h5 : AHeap), cm x h4 hz h5 → E.storeVar h5 47 h.next 0 zeroG = some hz ∧ undef = undef ∧ E.results Tryz.f18 (fr 82 [(2, ptr h.next), (3, .bool false)]) hz = some failV ∧ Q (.ret failV) hz)))) ∧
           ∀ (_ : Unit) (_ : AHeap), False → False))))) := by kernel_rfl
def rdA0c (v : Value) (g N a : Nat) (D : Int) (n : Nat) (c0 : X0 → AHeap → Prop) (c1 c2 : AHeap → AHeap → AHeap → Prop) (c3 : AHeap → Unit → AHeap → Prop) (ca : AHeap → XE → AHeap → Prop) (cm : XE → AHeap → AHeap → AHeap → Prop) (cm' : XE → AHeap → Unit → AHeap → Prop) (ce : XE → AHeap → Value → AHeap → Prop) (cs : XE → AHeap → AHeap → AHeap → Prop) : Ans :=
  .call (fun a : X0 => .slice none 0 0) c0 fun a0 hB => .eff undef a0.hs (.call (fun _ : AHeap => .int .i64 (.ofNat N)) (c1 hB) fun hs1 _ => .eff undef hs1 (.call (fun _ : AHeap => .int .u64 (.ofNat a)) (c2 hB) fun hs2 _ => .val (.int .i64 D) (.eff undef hs2 (.call (fun _ : Unit => .int .i64 (.ofNat n)) (c3 hB) fun _ _ =>
    .loop [0,2,4,5,6,7] 0 (fun _ : XE => fr18x v g hB.next hB.next.succ) (ca hB) (fun x h4 => .val (.int .i64 x.e) (.br (.eff undef x.hz (.val failV .stop)) (.val x.agg (.call (fun _ : Unit => .bool true) (cm' x h4) fun _ _ => .val x.agg (.call (fun w : Value => w) (ce x h4) fun _ _ => .call (fun _ : AHeap => .bool false) (cs x h4) fun hz _ => .eff undef hz (.val failV .stop)))))) (fun _ : Unit => fr 82 []) (fun _ _ => False) (fun _ _ => .stop)))))
theorem rd_ev0c (v : Value) (N a : Nat) (D : Int) (n : Nat) (h : AHeap) (c0 : X0 → AHeap → Prop) (c1 c2 : AHeap → AHeap → AHeap → Prop) (c3 : AHeap → Unit → AHeap → Prop) (ca : AHeap → XE → AHeap → Prop) (cm : XE → AHeap → AHeap → AHeap → Prop) (cm' : XE → AHeap → Unit → AHeap → Prop) (ce : XE → AHeap → Value → AHeap → Prop) (cs : XE → AHeap → AHeap → AHeap → Prop) (Q : ARet → AHeap → Prop) : orCall PP E 18 [v] h (rdA0c v h.next N a D n c0 c1 c2 c3 ca cm cm' ce cs) Q =
  (SC PP 44 [.slice none 0 0, v] (h.row zr) (fun r h' => ∃ a : X0, r = .ret (.slice none 0 0) ∧ c0 a h') ∧ ∀ (a0 : X0) (hB : AHeap), c0 a0 hB →
    (E.storeVar ((hB.row [.slice none 0 0, .int .i64 (.ofNat 0)]).row zr) 47 hB.next.succ 0 zeroG = some a0.hs ∧ undef = undef ∧ SC PP 45 [ptr hB.next, .int .i64 (.ofNat 1099511627776)] a0.hs (fun r h' => ∃ x : AHeap, r = .ret (.int .i64 (.ofNat N)) ∧ c1 hB x h') ∧ ∀ (hs1 h1 : AHeap), c1 hB hs1 h1 →
      (E.storeVar h1 3 hB.next.succ 0 (.int .i64 (.ofNat N)) = some hs1 ∧ undef = undef ∧ SC PP 46 [ptr hB.next, .int .i64 (.ofNat 8)] hs1 (fun r h' => ∃ x : AHeap, r = .ret (.int .u64 (.ofNat a)) ∧ c2 hB x h') ∧ ∀ (hs2 h2 : AHeap), c2 hB hs2 h2 →
        (some (Value.int .i64 (IntKind.i64.wrap (.ofNat a))) = some (.int .i64 D) ∧ E.storeVar h2 3 hB.next.succ 1 (.int .i64 D) = some hs2 ∧ undef = undef ∧ SC PP 45 [ptr hB.next, .int .i64 (.ofNat 21)] hs2 (fun r h' => ∃ _ : Unit, r = .ret (.int .i64 (.ofNat n)) ∧ c3 hB () h') ∧ ∀ (_ : Unit) (h3 : AHeap), c3 hB () h3 →
          ((∀ rd, SW PP rd (.loop (bodyOf 18 0)) (fr18 v h.next hB.next hB.next.succ n 0) h3 (LQ 0 (fun _ : XE => fr18x v h.next hB.next hB.next.succ) (ca hB) (fun _ : Unit => fr 82 []) (fun _ _ => False))) ∧
           (∀ (x : XE) (h4 : AHeap), ca hB x h4 → E.loadVar h4 3 hB.next 1 = some (.int .i64 x.e) ∧
             (((!(x.e == 0)) = true → E.storeVar h4 47 h.next 0 zeroG = some x.hz ∧ undef = undef ∧ E.results Tryz.f18 (fr 82 [(2, ptr h.next), (3, .bool false)]) x.hz = some failV ∧ Q (.ret failV) x.hz) ∧ ((!(x.e == 0)) = false → (E.loadVar h4 47 hB.next.succ 0 = some x.agg ∧ SC PP 17 [x.agg] h4 (fun r h' => ∃ _ : Unit, r = .ret (.bool true) ∧ cm' x h4 () h') ∧ ∀ (_ : Unit) (h5 : AHeap), cm' x h4 () h5 → (E.loadVar h5 47 hB.next.succ 0 = some x.agg ∧ SC PP 16 [x.agg] h5 (fun r h' => ∃ w : Value, r = .ret w ∧ ce x h4 w h') ∧ ∀ (w : Value) (h6 : AHeap), ce x h4 w h6 → (SC PP 48 [w, v] h6 (fun r h' => ∃ hz : AHeap, r = .ret (.bool false) ∧ cs x h4 hz h') ∧ ∀ (hz h7 : AHeap), cs x h4 hz h7 → E.storeVar h7 47 h.next 0 zeroG = some hz ∧ undef = undef ∧ E.results Tryz.f18 (fr 82 [(2, ptr h.next), (3, .bool false)]) hz = some failV ∧ Q (.ret failV) hz)))))) ∧
           ∀ (_ : Unit) (_ : AHeap), False → False))))) := by kernel_rfl
def rdA0d (v : Value) (g N a : Nat) (D : Int) (n : Nat) (c0 : X0 → AHeap → Prop) (c1 c2 : AHeap → AHeap → AHeap → Prop) (c3 : AHeap → Unit → AHeap → Prop) (ca : AHeap → XE → AHeap → Prop) (cm : XE → AHeap → AHeap → AHeap → Prop) (cm' : XE → AHeap → Unit → AHeap → Prop) (ce : XE → AHeap → Value → AHeap → Prop) (cs : XE → AHeap → AHeap → AHeap → Prop) : Ans :=
  .call (fun a : X0 => .slice none 0 0) c0 fun a0 hB => .eff undef a0.hs (.call (fun _ : AHeap => .int .i64 (.ofNat N)) (c1 hB) fun hs1 _ => .eff undef hs1 (.call (fun _ : AHeap => .int .u64 (.ofNat a)) (c2 hB) fun hs2 _ => .val (.int .i64 D) (.eff undef hs2 (.call (fun _ : Unit => .int .i64 (.ofNat n)) (c3 hB) fun _ _ =>
    .loop [0,2,4,5,6,7] 0 (fun _ : XE => fr18x v g hB.next hB.next.succ) (ca hB) (fun x h4 => .val (.int .i64 x.e) (.br (.eff undef x.hz (.val failV .stop)) (.val x.agg (.call (fun _ : Unit => .bool true) (cm' x h4) fun _ _ => .val x.agg (.call (fun w : Value => w) (ce x h4) fun _ _ => .call (fun _ : AHeap => .bool true) (cs x h4) fun ht _ => .val x.agg (.eff undef ht (.val (.tuple #[x.agg, .bool true]) .stop))))))) (fun _ : Unit => fr 82 []) (fun _ _ => False) (fun _ _ => .stop)))))
theorem rd_ev0d (v : Value) (N a : Nat) (D : Int) (n : Nat) (h : AHeap) (c0 : X0 → AHeap → Prop) (c1 c2 : AHeap → AHeap → AHeap → Prop) (c3 : AHeap → Unit → AHeap → Prop) (ca : AHeap → XE → AHeap → Prop) (cm : XE → AHeap → AHeap → AHeap → Prop) (cm' : XE → AHeap → Unit → AHeap → Prop) (ce : XE → AHeap → Value → AHeap → Prop) (cs : XE → AHeap → AHeap → AHeap → Prop) (Q : ARet → AHeap → Prop) : orCall PP E 18 [v] h (rdA0d v h.next N a D n c0 c1 c2 c3 ca cm cm' ce cs) Q =
  (SC PP 44 [.slice none 0 0, v] (h.row zr) (fun r h' => ∃ a : X0, r = .ret (.slice none 0 0) ∧ c0 a h') ∧ ∀ (a0 : X0) (hB : AHeap), c0 a0 hB →
    (E.storeVar ((hB.row [.slice none 0 0, .int .i64 (.ofNat 0)]).row zr) 47 hB.next.succ 0 zeroG = some a0.hs ∧ undef = undef ∧ SC PP 45 [ptr hB.next, .int .i64 (.ofNat 1099511627776)] a0.hs (fun r h' => ∃ x : AHeap, r = .ret (.int .i64 (.ofNat N)) ∧ c1 hB x h') ∧ ∀ (hs1 h1 : AHeap), c1 hB hs1 h1 →
      (E.storeVar h1 3 hB.next.succ 0 (.int .i64 (.ofNat N)) = some hs1 ∧ undef = undef ∧ SC PP 46 [ptr hB.next, .int .i64 (.ofNat 8)] hs1 (fun r h' => ∃ x : AHeap, r = .ret (.int .u64 (.ofNat a)) ∧ c2 hB x h') ∧ ∀ (hs2 h2 : AHeap), c2 hB hs2 h2 →
        (some (Value.int .i64 (IntKind.i64.wrap (.ofNat a))) = some (.int .i64 D) ∧ E.storeVar h2 3 hB.next.succ 1 (.int .i64 D) = some hs2 ∧ undef = undef ∧ SC PP 45 [ptr hB.next, .int .i64 (.ofNat 21)] hs2 (fun r h' => ∃ _ : Unit, r = .ret (.int .i64 (.ofNat n)) ∧ c3 hB () h') ∧ ∀ (_ : Unit) (h3 : AHeap), c3 hB () h3 →
          ((∀ rd, SW PP rd (.loop (bodyOf 18 0)) (fr18 v h.next hB.next hB.next.succ n 0) h3 (LQ 0 (fun _ : XE => fr18x v h.next hB.next hB.next.succ) (ca hB) (fun _ : Unit => fr 82 []) (fun _ _ => False))) ∧
           (∀ (x : XE) (h4 : AHeap), ca hB x h4 → E.loadVar h4 3 hB.next 1 = some (.int .i64 x.e) ∧
             (((!(x.e == 0)) = true → E.storeVar h4 47 h.next 0 zeroG = some x.hz ∧ undef = undef ∧ E.results Tryz.f18 (fr 82 [(2, ptr h.next), (3, .bool false)]) x.hz = some failV ∧ Q (.ret failV) x.hz) ∧ ((!(x.e == 0)) = false → (E.loadVar h4 47 hB.next.succ 0 = some x.agg ∧ SC PP 17 [x.agg] h4 (fun r h' => ∃ _ : Unit, r = .ret (.bool true) ∧ cm' x h4 () h') ∧ ∀ (_ : Unit) (h5 : AHeap), cm' x h4 () h5 → (E.loadVar h5 47 hB.next.succ 0 = some x.agg ∧ SC PP 16 [x.agg] h5 (fun r h' => ∃ w : Value, r = .ret w ∧ ce x h4 w h') ∧ ∀ (w : Value) (h6 : AHeap), ce x h4 w h6 → (SC PP 48 [w, v] h6 (fun r h' => ∃ ht : AHeap, r = .ret (.bool true) ∧ cs x h4 ht h') ∧ ∀ (ht h7 : AHeap), cs x h4 ht h7 → E.loadVar h7 47 hB.next.succ 0 = some x.agg ∧ E.storeVar h7 47 h.next 0 x.agg = some ht ∧ undef = undef ∧ E.results Tryz.f18 (fr 82 [(2, ptr h.next), (3, .bool true)]) ht = some (.tuple #[x.agg, .bool true]) ∧ Q (.ret (.tuple #[x.agg, .bool true])) ht)))))) ∧
           ∀ (_ : Unit) (_ : AHeap), False → False))))) := by kernel_rfl
def rdA1b (v : Value) (g N a : Nat) (D : Int) (n : Nat) (c0 : X0 → AHeap → Prop) (c1 c2 : AHeap → AHeap → AHeap → Prop) (c3 : AHeap → Unit → AHeap → Prop) (ca : AHeap → XE → AHeap → Prop) (cm : XE → AHeap → AHeap → AHeap → Prop) (cm' : XE → AHeap → Unit → AHeap → Prop) (ce : XE → AHeap → Value → AHeap → Prop) (cs : XE → AHeap → AHeap → AHeap → Prop) : Ans :=
  .call (fun a : X0 => .slice (some ⟨a.b, 0, none⟩) a.n a.k) c0 fun a0 hB => .eff undef a0.hs (.call (fun _ : AHeap => .int .i64 (.ofNat N)) (c1 hB) fun hs1 _ => .eff undef hs1 (.call (fun _ : AHeap => .int .u64 (.ofNat a)) (c2 hB) fun hs2 _ => .val (.int .i64 D) (.eff undef hs2 (.call (fun _ : Unit => .int .i64 (.ofNat n)) (c3 hB) fun _ _ =>
    .loop [0,2,4,5,6,7] 0 (fun _ : XE => fr18x v g hB.next hB.next.succ) (ca hB) (fun x h4 => .val (.int .i64 x.e) (.br (.eff undef x.hz (.val failV .stop)) (.val x.agg (.call (fun _ : AHeap => .bool false) (cm x h4) fun hz _ => .eff undef hz (.val failV .stop))))) (fun _ : Unit => fr 82 []) (fun _ _ => False) (fun _ _ => .stop)))))
theorem rd_ev1b (v : Value) (N a : Nat) (D : Int) (n : Nat) (h : AHeap) (c0 : X0 → AHeap → Prop) (c1 c2 : AHeap → AHeap → AHeap → Prop) (c3 : AHeap → Unit → AHeap → Prop) (ca : AHeap → XE → AHeap → Prop) (cm : XE → AHeap → AHeap → AHeap → Prop) (cm' : XE → AHeap → Unit → AHeap → Prop) (ce : XE → AHeap → Value → AHeap → Prop) (cs : XE → AHeap → AHeap → AHeap → Prop) (Q : ARet → AHeap → Prop) : orCall PP E 18 [v] h (rdA1b v h.next N a D n c0 c1 c2 c3 ca cm cm' ce cs) Q =
  (SC PP 44 [.slice none 0 0, v] (h.row zr) (fun r h' => ∃ a : X0, r = .ret (.slice (some ⟨a.b, 0, none⟩) a.n a.k) ∧ c0 a h') ∧ ∀ (a0 : X0) (hB : AHeap), c0 a0 hB →
    (E.storeVar ((hB.row [.slice (some ⟨a0.b, 0, none⟩) a0.n a0.k, .int .i64 (.ofNat 0)]).row zr) 47 hB.next.succ 0 zeroG = some a0.hs ∧ undef = undef ∧ SC PP 45 [ptr hB.next, .int .i64 (.ofNat 1099511627776)] a0.hs (fun r h' => ∃ x : AHeap, r = .ret (.int .i64 (.ofNat N)) ∧ c1 hB x h') ∧ ∀ (hs1 h1 : AHeap), c1 hB hs1 h1 →
      (E.storeVar h1 3 hB.next.succ 0 (.int .i64 (.ofNat N)) = some hs1 ∧ undef = undef ∧ SC PP 46 [ptr hB.next, .int .i64 (.ofNat 8)] hs1 (fun r h' => ∃ x : AHeap, r = .ret (.int .u64 (.ofNat a)) ∧ c2 hB x h') ∧ ∀ (hs2 h2 : AHeap), c2 hB hs2 h2 →
        (some (Value.int .i64 (IntKind.i64.wrap (.ofNat a))) = some (.int .i64 D) ∧ E.storeVar h2 3 hB.next.succ 1 (.int .i64 D) = some hs2 ∧ undef = undef ∧ SC PP 45 [ptr hB.next, .int .i64 (.ofNat 21)] hs2 (fun r h' => ∃ _ : Unit, r = .ret (.int .i64 (.ofNat n)) ∧ c3 hB () h') ∧ ∀ (_ : Unit) (h3 : AHeap), c3 hB () h3 →
          ((∀ rd, SW PP rd (.loop (bodyOf 18 0)) (fr18 v h.next hB.next hB.next.succ n 0) h3 (LQ 0 (fun _ : XE => fr18x v h.next hB.next hB.next.succ) (ca hB) (fun _ : Unit => fr 82 []) (fun _ _ => False))) ∧
           (∀ (x : XE) (h4 : AHeap), ca hB x h4 → E.loadVar h4 3 hB.next 1 = some (.int .i64 x.e) ∧
             (((!(x.e == 0)) = true → E.storeVar h4 47 h.next 0 zeroG = some x.hz ∧ undef = undef ∧ E.results Tryz.f18 (fr 82 [(2, ptr h.next), (3, .bool false)]) x.hz = some failV ∧ Q (.ret failV) x.hz) ∧ ((!(x.e == 0)) = false → (E.loadVar h4 47 hB.next.succ 0 = some x.agg ∧ SC PP 17 [x.agg] h4 (fun r h' => ∃ hz : AHeap, r = .ret (.bool false) ∧ cm x h4 hz h') ∧ ∀ (hz h5 : AHeap), cm x h4 hz h5 → E.storeVar h5 47 h.next 0 zeroG = some hz ∧ undef = undef ∧ E.results Tryz.f18 (fr 82 [(2, ptr h.next), (3, .bool false)]) hz = some failV ∧ Q (.ret failV) hz)))) ∧
           ∀ (_ : Unit) (_ : AHeap), False → False))))) := by kernel_rfl
def rdA1c (v : Value) (g N a : Nat) (D : Int) (n : Nat) (c0 : X0 → AHeap → Prop) (c1 c2 : AHeap → AHeap → AHeap → Prop) (c3 : AHeap → Unit → AHeap → Prop) (ca : AHeap → XE → AHeap → Prop) (cm : XE → AHeap → AHeap → AHeap → Prop) (cm' : XE → AHeap → Unit → AHeap → Prop) (ce : XE → AHeap → Value → AHeap → Prop) (cs : XE → AHeap → AHeap → AHeap → Prop) : Ans :=
  .call (fun a : X0 => .slice (some ⟨a.b, 0, none⟩) a.n a.k) c0 fun a0 hB => .eff undef a0.hs (.call (fun _ : AHeap => .int .i64 (.ofNat N)) (c1 hB) fun hs1 _ => .eff undef hs1 (.call (fun _ : AHeap => .int .u64 (.ofNat a)) (c2 hB) fun hs2 _ => .val (.int .i64 D) (.eff undef hs2 (.call (fun _ : Unit => .int .i64 (.ofNat n)) (c3 hB) fun _ _ =>
    .loop [0,2,4,5,6,7] 0 (fun _ : XE => fr18x v g hB.next hB.next.succ) (ca hB) (fun x h4 => .val (.int .i64 x.e) (.br (.eff undef x.hz (.val failV .stop)) (.val x.agg (.call (fun _ : Unit => .bool true) (cm' x h4) fun _ _ => .val x.agg (.call (fun w : Value => w) (ce x h4) fun _ _ => .call (fun _ : AHeap => .bool false) (cs x h4) fun hz _ => .eff undef hz (.val failV .stop)))))) (fun _ : Unit => fr 82 []) (fun _ _ => False) (fun _ _ => .stop)))))
theorem rd_ev1c (v : Value) (N a : Nat) (D : Int) (n : Nat) (h : AHeap) (c0 : X0 → AHeap → Prop) (c1 c2 : AHeap → AHeap → AHeap → Prop) (c3 : AHeap → Unit → AHeap → Prop) (ca : AHeap → XE → AHeap → Prop) (cm : XE → AHeap → AHeap → AHeap → Prop) (cm' : XE → AHeap → Unit → AHeap → Prop) (ce : XE → AHeap → Value → AHeap → Prop) (cs : XE → AHeap → AHeap → AHeap → Prop) (Q : ARet → AHeap → Prop) : orCall PP E 18 [v] h (rdA1c v h.next N a D n c0 c1 c2 c3 ca cm cm' ce cs) Q =
  (SC PP 44 [.slice none 0 0, v] (h.row zr) (fun r h' => ∃ a : X0, r = .ret (.slice (some ⟨a.b, 0, none⟩) a.n a.k) ∧ c0 a h') ∧ ∀ (a0 : X0) (hB : AHeap), c0 a0 hB →
    (E.storeVar ((hB.row [.slice (some ⟨a0.b, 0, none⟩) a0.n a0.k, .int .i64 (.ofNat 0)]).row zr) 47 hB.next.succ 0 zeroG = some a0.hs ∧ undef = undef ∧ SC PP 45 [ptr hB.next, .int .i64 (.ofNat 1099511627776)] a0.hs (fun r h' => ∃ x : AHeap, r = .ret (.int .i64 (.ofNat N)) ∧ c1 hB x h') ∧ ∀ (hs1 h1 : AHeap), c1 hB hs1 h1 →
      (E.storeVar h1 3 hB.next.succ 0 (.int .i64 (.ofNat N)) = some hs1 ∧ undef = undef ∧ SC PP 46 [ptr hB.next, .int .i64 (.ofNat 8)] hs1 (fun r h' => ∃ x : AHeap, r = .ret (.int .u64 (.ofNat a)) ∧ c2 hB x h') ∧ ∀ (hs2 h2 : AHeap), c2 hB hs2 h2 →
        (some (Value.int .i64 (IntKind.i64.wrap (.ofNat a))) = some (.int .i64 D) ∧ E.storeVar h2 3 hB.next.succ 1 (.int .i64 D) = some hs2 ∧ undef = undef ∧ SC PP 45 [ptr hB.next, .int .i64 (.ofNat 21)] hs2 (fun r h' => ∃ _ : Unit, r = .ret (.int .i64 (.ofNat n)) ∧ c3 hB () h') ∧ ∀ (_ : Unit) (h3 : AHeap), c3 hB () h3 →
          ((∀ rd, SW PP rd (.loop (bodyOf 18 0)) (fr18 v h.next hB.next hB.next.succ n 0) h3 (LQ 0 (fun _ : XE => fr18x v h.next hB.next hB.next.succ) (ca hB) (fun _ : Unit => fr 82 []) (fun _ _ => False))) ∧
           (∀ (x : XE) (h4 : AHeap), ca hB x h4 → E.loadVar h4 3 hB.next 1 = some (.int .i64 x.e) ∧
             (((!(x.e == 0)) = true → E.storeVar h4 47 h.next 0 zeroG = some x.hz ∧ undef = undef ∧ E.results Tryz.f18 (fr 82 [(2, ptr h.next), (3, .bool false)]) x.hz = some failV ∧ Q (.ret failV) x.hz) ∧ ((!(x.e == 0)) = false → (E.loadVar h4 47 hB.next.succ 0 = some x.agg ∧ SC PP 17 [x.agg] h4 (fun r h' => ∃ _ : Unit, r = .ret (.bool true) ∧ cm' x h4 () h') ∧ ∀ (_ : Unit) (h5 : AHeap), cm' x h4 () h5 → (E.loadVar h5 47 hB.next.succ 0 = some x.agg ∧ SC PP 16 [x.agg] h5 (fun r h' => ∃ w : Value, r = .ret w ∧ ce x h4 w h') ∧ ∀ (w : Value) (h6 : AHeap), ce x h4 w h6 → (SC PP 48 [w, v] h6 (fun r h' => ∃ hz : AHeap, r = .ret (.bool false) ∧ cs x h4 hz h') ∧ ∀ (hz h7 : AHeap), cs x h4 hz h7 → E.storeVar h7 47 h.next 0 zeroG = some hz ∧ undef = undef ∧ E.results Tryz.f18 (fr 82 [(2, ptr h.next), (3, .bool false)]) hz = some failV ∧ Q (.ret failV) hz)))))) ∧
           ∀ (_ : Unit) (_ : AHeap), False → False))))) := by kernel_rfl
def rdA1d (v : Value) (g N a : Nat) (D : Int) (n : Nat) (c0 : X0 → AHeap → Prop) (c1 c2 : AHeap → AHeap → AHeap → Prop) (c3 : AHeap → Unit → AHeap → Prop) (ca : AHeap → XE → AHeap → Prop) (cm : XE → AHeap → AHeap → AHeap → Prop) (cm' : XE → AHeap → Unit → AHeap → Prop) (ce : XE → AHeap → Value → AHeap → Prop) (cs : XE → AHeap → AHeap → AHeap → Prop) : Ans :=
  .call (fun a : X0 => .slice (some ⟨a.b, 0, none⟩) a.n a.k) c0 fun a0 hB => .eff undef a0.hs (.call (fun _ : AHeap => .int .i64 (.ofNat N)) (c1 hB) fun hs1 _ => .eff undef hs1 (.call (fun _ : AHeap => .int .u64 (.ofNat a)) (c2 hB) fun hs2 _ => .val (.int .i64 D) (.eff undef hs2 (.call (fun _ : Unit => .int .i64 (.ofNat n)) (c3 hB) fun _ _ =>
    .loop [0,2,4,5,6,7] 0 (fun _ : XE => fr18x v g hB.next hB.next.succ) (ca hB) (fun x h4 => .val (.int .i64 x.e) (.br (.eff undef x.hz (.val failV .stop)) (.val x.agg (.call (fun _ : Unit => .bool true) (cm' x h4) fun _ _ => .val x.agg (.call (fun w : Value => w) (ce x h4) fun _ _ => .call (fun _ : AHeap => .bool true) (cs x h4) fun ht _ => .val x.agg (.eff undef ht (.val (.tuple #[x.agg, .bool true]) .stop))))))) (fun _ : Unit => fr 82 []) (fun _ _ => False) (fun _ _ => .stop)))))
theorem rd_ev1d (v : Value) (N a : Nat) (D : Int) (n : Nat) (h : AHeap) (c0 : X0 → AHeap → Prop) (c1 c2 : AHeap → AHeap → AHeap → Prop) (c3 : AHeap → Unit → AHeap → Prop) (ca : AHeap → XE → AHeap → Prop) (cm : XE → AHeap → AHeap → AHeap → Prop) (cm' : XE → AHeap → Unit → AHeap → Prop) (ce : XE → AHeap → Value → AHeap → Prop) (cs : XE → AHeap → AHeap → AHeap → Prop) (Q : ARet → AHeap → Prop) : orCall PP E 18 [v] h (rdA1d v h.next N a D n c0 c1 c2 c3 ca cm cm' ce cs) Q =
  (SC PP 44 [.slice none 0 0, v] (h.row zr) (fun r h' => ∃ a : X0, r = .ret (.slice (some ⟨a.b, 0, none⟩) a.n a.k) ∧ c0 a h') ∧ ∀ (a0 : X0) (hB : AHeap), c0 a0 hB →
    (E.storeVar ((hB.row [.slice (some ⟨a0.b, 0, none⟩) a0.n a0.k, .int .i64 (.ofNat 0)]).row zr) 47 hB.next.succ 0 zeroG = some a0.hs ∧ undef = undef ∧ SC PP 45 [ptr hB.next, .int .i64 (.ofNat 1099511627776)] a0.hs (fun r h' => ∃ x : AHeap, r = .ret (.int .i64 (.ofNat N)) ∧ c1 hB x h') ∧ ∀ (hs1 h1 : AHeap), c1 hB hs1 h1 →
      (E.storeVar h1 3 hB.next.succ 0 (.int .i64 (.ofNat N)) = some hs1 ∧ undef = undef ∧ SC PP 46 [ptr hB.next, .int .i64 (.ofNat 8)] hs1 (fun r h' => ∃ x : AHeap, r = .ret (.int .u64 (.ofNat a)) ∧ c2 hB x h') ∧ ∀ (hs2 h2 : AHeap), c2 hB hs2 h2 →
        (some (Value.int .i64 (IntKind.i64.wrap (.ofNat a))) = some (.int .i64 D) ∧ E.storeVar h2 3 hB.next.succ 1 (.int .i64 D) = some hs2 ∧ undef = undef ∧ SC PP 45 [ptr hB.next, .int .i64 (.ofNat 21)] hs2 (fun r h' => ∃ _ : Unit, r = .ret (.int .i64 (.ofNat n)) ∧ c3 hB () h') ∧ ∀ (_ : Unit) (h3 : AHeap), c3 hB () h3 →
          ((∀ rd, SW PP rd (.loop (bodyOf 18 0)) (fr18 v h.next hB.next hB.next.succ n 0) h3 (LQ 0 (fun _ : XE => fr18x v h.next hB.next hB.next.succ) (ca hB) (fun _ : Unit => fr 82 []) (fun _ _ => False))) ∧
           (∀ (x : XE) (h4 : AHeap), ca hB x h4 → E.loadVar h4 3 hB.next 1 = some (.int .i64 x.e) ∧
             (((!(x.e == 0)) = true → E.storeVar h4 47 h.next 0 zeroG = some x.hz ∧ undef = undef ∧ E.results Tryz.f18 (fr 82 [(2, ptr h.next), (3, .bool false)]) x.hz = some failV ∧ Q (.ret failV) x.hz) ∧ ((!(x.e == 0)) = false → (E.loadVar h4 47 hB.next.succ 0 = some x.agg ∧ SC PP 17 [x.agg] h4 (fun r h' => ∃ _ : Unit, r = .ret (.bool true) ∧ cm' x h4 () h') ∧ ∀ (_ : Unit) (h5 : AHeap), cm' x h4 () h5 → (E.loadVar h5 47 hB.next.succ 0 = some x.agg ∧ SC PP 16 [x.agg] h5 (fun r h' => ∃ w : Value, r = .ret w ∧ ce x h4 w h') ∧ ∀ (w : Value) (h6 : AHeap), ce x h4 w h6 → (SC PP 48 [w, v] h6 (fun r h' => ∃ ht : AHeap, r = .ret (.bool true) ∧ cs x h4 ht h') ∧ ∀ (ht h7 : AHeap), cs x h4 ht h7 → E.loadVar h7 47 hB.next.succ 0 = some x.agg ∧ E.storeVar h7 47 h.next 0 x.agg = some ht ∧ undef = undef ∧ E.results Tryz.f18 (fr 82 [(2, ptr h.next), (3, .bool true)]) ht = some (.tuple #[x.agg, .bool true]) ∧ Q (.ret (.tuple #[x.agg, .bool true])) ht)))))) ∧
           ∀ (_ : Unit) (_ : AHeap), False → False))))) := by kernel_rfl
/-! Lengths of what may be. -/
theorem eWs_bound : ∀ (c : Ws), wOk c → (eWs c).length ≤ c.length * 516
  | [], _ => by simp [eWs]
  | w :: c, h => by
    have h1 := eWs_bound c fun x hx => h x (List.mem_cons_of_mem _ hx)
    have h2 := h w List.mem_cons_self
    rw [eWs_cons]
    simp only [List.length_append, eW, bts_len, List.length_cons]
    omega
theorem eCs_bound : ∀ (cs : List Ws), (∀ c ∈ cs, cOk c) → (eCs cs).length ≤ cs.length * 20648
  | [], _ => by simp [eCs]
  | c :: cs, h => by
    have h1 := eCs_bound cs fun x hx => h x (List.mem_cons_of_mem _ hx)
    obtain ⟨_, h2, h3⟩ := h c List.mem_cons_self
    have h4 := eWs_bound c h3
    rw [eCs_cons]
    simp only [List.length_append, eC, bts_len, List.length_cons]
    omega
theorem grpOk_may {N : Int} {cs : List Ws} (h : mayN N cs) : GrpOk N cs := by
  obtain ⟨h1, h2, h3, h4, h5⟩ := h
  have h6 := eCs_bound cs h5
  have h9 : (maxNum : Int) = 1099511627776 := rfl
  exact ⟨by omega, by omega, fun c hc => by have := (h5 c hc).2.1; omega, by omega⟩
theorem wrap_u64_i64 {d : Nat} (h : d < 18446744073709551616) : IntKind.u64.wrap (IntKind.i64.wrap (.ofNat d)) = .ofNat d := by
  unfold IntKind.wrap
  simp only [show IntKind.i64.bits = 64 from rfl, show IntKind.u64.bits = 64 from rfl, show IntKind.u64.signed = false from rfl, show IntKind.i64.signed = true from rfl, Bool.false_and, Bool.true_and, Bool.false_eq_true, if_false, decide_eq_true_eq]
  simp only [Int.ofNat_eq_natCast]
  split <;> omega
theorem numD_wrap {d : Nat} (h : d < 18446744073709551616) : numD (IntKind.i64.wrap (.ofNat d)) = d := by
  unfold numD; rw [wrap_u64_i64 h]; simp

/-- How it stands while it is read: the result's cell is of zeros. -/
structure J1 (h0 : AHeap) (z : Prop) (p q : Nat) (N D : Int) (s : St2) (h' : AHeap) : Prop where
  rd : RdI z p h' s
  res : Grp h0.next h' 0 0 (.slice none 0 0)
  grp : Grp q h' N D (.slice none 0 0)
  keep : Keep h0.next h0 h'
  lt : h0.next < p
  pq : p < q
theorem J1.after {h0 : AHeap} {z : Prop} {p q : Nat} {N D : Int} {s s' : St2} {h1 h2 : AHeap} (t : J1 h0 z p q N D s h1) (a : AftI p h1 s' h2) : J1 h0 False p q N D s' h2 :=
  ⟨a.1, t.res.keep (a.2.get _ t.res.lt (by have := t.lt; omega)) a.2.next, t.grp.keep (a.2.get _ t.grp.lt (by have := t.pq; omega)) a.2.next, t.keep.trans (KeepR.toKeep a.2 (Nat.le_of_lt t.lt) t.keep.next), t.lt, t.pq⟩
theorem J1.set {h0 : AHeap} {z : Prop} {p q : Nat} {N D N' D' : Int} {s : St2} {h1 h2 : AHeap} (t : J1 h0 z p q N D s h1) (k : KeepR q h1.next h1 h2) (g : Grp q h2 N' D' (.slice none 0 0)) : J1 h0 z p q N' D' s h2 :=
  ⟨t.rd.keep (B := q) (KeepR.toKeep k (Nat.le_refl q) (Nat.le_of_lt t.grp.lt)) t.pq, t.res.keep (k.get _ t.res.lt (by have := t.lt; have := t.pq; omega)) k.next, g, t.keep.trans (KeepR.toKeep k (by have := t.lt; have := t.pq; omega) t.keep.next), t.lt, t.pq⟩

/-- What the loop leaves. -/
structure Ca (h : AHeap) (b : List UInt8) (p q : Nat) (x : XE) (h4 : AHeap) : Prop where
  ld : E.loadVar h4 3 p 1 = some (.int .i64 x.e)
  bad : x.e ≠ 0 → E.storeVar h4 47 h.next 0 zeroG = some x.hz ∧ E.results Tryz.f18 (fr 82 [(2, ptr h.next), (3, .bool false)]) x.hz = some failV ∧ Keep h.next h x.hz ∧ (rc (rdN b).1 (rdN b).2).2.2 ≠ 0
  ok : x.e = 0 → (rc (rdN b).1 (rdN b).2).2.2 = 0 ∧ ∃ cv, x.agg = .agg #[.int .i64 (.ofNat (rdA b).1), .int .i64 (IntKind.i64.wrap (.ofNat (rdD b).1)), cv] ∧ SlG h4.next h4 cv (rc (rdN b).1 (rdN b).2).1 ∧ oneCell cv = true
  lay : Grp h.next h4 0 0 (.slice none 0 0) ∧ h.next < q ∧ Keep h.next h h4
  grp : ∃ cv, Grp q h4 (.ofNat (rdA b).1) (IntKind.i64.wrap (.ofNat (rdD b).1)) cv ∧ x.agg = .agg #[.int .i64 (.ofNat (rdA b).1), .int .i64 (IntKind.i64.wrap (.ofNat (rdD b).1)), cv]
  lists : ∀ cs cv, SlG h4.next h4 cv cs → x.agg = .agg #[.int .i64 (.ofNat (rdA b).1), .int .i64 (IntKind.i64.wrap (.ofNat (rdD b).1)), cv] → ∀ h5 h6, Keep h4.next h4 h5 → KeepR h.next h5.next h5 h6 → (rc (rdN b).1 (rdN b).2).2.2 = 0 → cs = (rc (rdN b).1 (rdN b).2).1 → SlG h6.next h6 cv cs

theorem rdec_loop {h : AHeap} {b : List UInt8} {v : Value} {p q : Nat} {h3 : AHeap} (t : J1 h False p q (.ofNat (rdA b).1) (IntKind.i64.wrap (.ofNat (rdD b).1)) (rdN b).2 h3) (rd : Option Nat) :
    SW PP rd (.loop (bodyOf 18 0)) (fr18 v h.next p q (rdN b).1 0) h3 (LQ 0 (fun _ : XE => fr18x v h.next p q) (Ca h b p q) (fun _ : Unit => fr 82 []) (fun _ _ => False)) := by
  have hle : (rdN b).1 ≤ 21 := rdNum_le _ _
  have hloop := cmdsi_loop (v := v) (g := h.next) (p := p) (q := q) (n := (rdN b).1) (B0 := h.next) (s := (rdN b).2) (N := .ofNat (rdA b).1) (M := IntKind.i64.wrap (.ofNat (rdD b).1)) (H := h3) (h0 := h) (rd := rd)
    ⟨Nat.le_refl _, Nat.le_of_lt t.lt, by have := t.lt; have := t.pq; omega, t.lt, t.pq, t.res.lt, t.rd.lt, t.grp.lt⟩ hle
    ⟨.slice none 0 0, [], fun x => h3.next ≤ x, .inl rfl, rfl, t.rd, t.res, t.grp, .nil, .nil, fun _ h => h, fun _ h => h, t.keep, Nat.le_refl _, by simp⟩
  refine hloop.mono ?_
  intro x f h4 q4
  refine LQ.mono q4 ?_ (fun _ q => q.elim)
  rintro _ ⟨i, cs, s', cv, lv, F, hi, hi2, u⟩
  obtain ⟨hz, e1, r1, k1⟩ := u.res.storeAll' 0 0 (v := .slice none 0 0) rfl
  have ho := own_one u.own
  have hsl : SlG h4.next h4 cv cs := ⟨lv, u.own.sl, u.lists.ll⟩
  refine ⟨⟨s'.2, .agg #[.int .i64 (.ofNat (rdA b).1), .int .i64 (IntKind.i64.wrap (.ofNat (rdD b).1)), cv], hz⟩, rfl, u.rd.load1, fun hne => ⟨e1, r1.res18 false, u.keep.trans (KeepR.toKeep k1 (Nat.le_refl _) u.keep.next), ?_⟩, fun h0 => ?_, ⟨u.res, by have := t.lt; have := t.pq; omega, u.keep⟩, ⟨cv, u.grp, rfl⟩, ?_⟩
  · refine rc_bad hi ?_
    rcases u.dec with hd | hd
    · rw [hd]; exact hne
    · exact hd.2
  · have hin : i = (rdN b).1 := hi2.resolve_right fun hh => hh h0
    have hd : rc i (rdN b).2 = (cs, s') := u.dec.resolve_right fun hh => hh.1 h0
    rw [← hin, hd]
    exact ⟨h0, cv, rfl, hsl, ho⟩
  · intro cs2 cv2 s2 ea h5 h6 k5 k6 hz0 hcs2
    have : cv2 = cv := by
      simp only [Value.agg.injEq] at ea
      have := congrArg (fun a : Array Value => a[2]?) ea
      simpa using this.symm
    subst this
    -- the result's cell is none of the rows
    have hs0 : s'.2 = 0 := by
      refine Classical.byContradiction fun hne => ?_
      have : (rc i (rdN b).2).2.2 ≠ 0 := by
        rcases u.dec with hd | hd
        · rw [hd]; exact hne
        · exact hd.2
      exact rc_bad hi this hz0
    have hin : i = (rdN b).1 := hi2.resolve_right fun hh => hh hs0
    have hd : rc i (rdN b).2 = (cs, s') := u.dec.resolve_right fun hh => hh.1 hs0
    have hcc : cs2 = cs := by rw [hcs2, ← hin, hd]
    subst hcc
    have hgF : ¬ F h.next := fun hf => by have := u.lo _ hf; have := t.res.lt; omega
    refine ⟨lv, ?_, ?_⟩
    · exact (own_after (p := h.next) (own_keep u.own k5) k6 hgF).sl
    · have l5 : Lists (fun b => F b ∨ b = p ∨ b = q ∨ b = h.next) h5 lv cs2 := u.lists.keep k5.next (fun x hx _ => k5.get x hx) (fun _ _ h => h)
      exact (l5.keep (F' := fun b => F b ∨ b = p ∨ b = q ∨ b = h.next) k6.next (fun x hx hf => k6.get x hx (fun e => hf (.inr (.inr (.inr e))))) (fun _ _ h => h)).ll
end
end Go.Proofs.YtkkbpknpongmfaaGreatDoor

/- The document's Decode: what it gives. -/
namespace Go.Proofs.YtkkbpknpongmfaaGreatDoor
open Go Go.Abs Classical
noncomputable section
theorem both_nil {h : AHeap} {v : Value} {B : Nat} (hv : Sl B h v (bys [])) : SC PP 44 [.slice none 0 0, v] h (fun x h' => x = .ret (.slice none 0 0) ∧ h' = h) := by
  have e1 : E.appendA h 50 50 (.slice none 0 0) v = some (.slice none 0 0, h) := by
    generalize hL : bys [] = L at hv
    cases hv with
    | nil => exact app_nil h
    | row g1 g2 =>
      rename_i b o k
      subst hL
      have hsrc : E.srcA h 1 50 (.slice (some ⟨b, o, none⟩) (bys []).length k) = some (0, []) := by
        simp only [Env.srcA, un50]
        rfl
      simp only [Env.appendA, un50, ti5, show (Tryz.t5).size = 1 from rfl, hsrc]
      rfl
  apply orCall_sound E_ok mixed (.eff (.slice none 0 0) h (.eff (.slice none 0 0) h .stop))
  rw [both_ev]
  refine And.intro (app_nil h) (And.intro e1 ?_)
  exact ⟨rfl, rfl⟩
/-- Behind the copy. -/
theorem rd_start {h hB : AHeap} {w : Value} {b : List UInt8} (o : Own h.next hB w (bys b)) (k : Keep (h.next + 1) (h.row zr) hB) : ∃ hs, E.storeVar ((hB.row [w, .int .i64 (.ofNat 0)]).row zr) 47 hB.next.succ 0 zeroG = some hs ∧ J1 h True hB.next hB.next.succ 0 0 (b, 0) hs := by
  have k1 := row_keep hB [w, .int .i64 (.ofNat 0)]
  have k2 := row_keep (hB.row [w, .int .i64 (.ofNat 0)]) zr
  have hn1 : (hB.row [w, .int .i64 (.ofNat 0)]).next = hB.next + 1 := rfl
  have hle : h.next + 1 ≤ hB.next := k.next
  have g : Grp hB.next.succ ((hB.row [w, .int .i64 (.ofNat 0)]).row zr) 0 0 (.slice none 0 0) := Grp.row (hB.row [w, .int .i64 (.ofNat 0)]) 0 0 (.slice none 0 0)
  obtain ⟨hs, e, r, k3⟩ := g.storeAll' 0 0 (v := .slice none 0 0) rfl
  refine ⟨hs, e, ?_⟩
  have r0 : RdI True hB.next (hB.row [w, .int .i64 (.ofNat 0)]) (b, 0) := by
    refine ⟨Nat.lt_succ_self _, .inl rfl, _, w, row_get hB _, ?_, ?_, ?_⟩
    · rw [PT.get_puts]; simp
    · rw [PT.get_puts]; simp
    · rcases own_slx o (p := hB.next) (Nat.le_refl _) with ⟨h2, h3⟩ | h2
      · refine .inl ⟨.inl trivial, ?_, h3⟩
        have := congrArg List.length h2
        rw [bys_length] at this
        exact List.length_eq_zero_iff.1 this
      · exact .inr (h2.keep (k1.keepR _) (Nat.le_refl _))
  have r1 := r0.keep k2 (Nat.lt_succ_self _)
  have hk3 : Keep hB.next.succ ((hB.row [w, .int .i64 (.ofNat 0)]).row zr) hs := KeepR.toKeep k3 (Nat.le_refl _) (Nat.le_succ _)
  have kall : Keep (h.next + 1) (h.row zr) hs := ((k.trans (k1.mono hle)).trans (k2.mono (by omega))).trans (hk3.mono (by omega))
  refine ⟨r1.keep hk3 (Nat.lt_succ_self _), (Grp.row h 0 0 _).keep (kall.get _ (Nat.lt_succ_self _)) kall.next, r, (row_keep h zr).trans (kall.mono (Nat.le_succ _)), by omega, Nat.lt_succ_self _⟩
theorem own_row {F : Nat → Prop} {h : AHeap} {v : Value} {l : List Value} (o : OwnF F h v l) (hl : l ≠ []) : ∃ b n k, v = .slice (some ⟨b, 0, none⟩) n k := by
  cases o with
  | nil => exact absurd rfl hl
  | row => exact ⟨_, _, _, rfl⟩
theorem rc_bd : ∀ (n : Nat) (s : St2), ∀ c ∈ (rc n s).1, c.length ≤ 40
  | 0, s, c, h => by simp [rc] at h
  | n + 1, s, c, h => by
    rcases List.mem_append.1 h with h | h
    · exact rc_bd n s c h
    · simp at h; subst h; rw [argsN_len]; exact rdNum_le _ _
theorem decR_none {h h' : AHeap} {b : List UInt8} (hn : rdec b = none) (k : Keep h.next h h') : DecR h (rdec b) (.ret failV) h' := by
  rw [hn]; exact ⟨k, rfl⟩
theorem rdec_0b {h : AHeap} {v : Value} {b : List UInt8} (hv : Sl h.next h v (bys b)) (hn : b.length < 4294967296) (hb : b = []) (hq : (rc (rdN b).1 (rdN b).2).2.2 = 0 → ¬ mayN (rdA b).1 (rc (rdN b).1 (rdN b).2).1) : SC PP 18 [v] h (DecR h (rdec b)) := by
  have hDlt : (rdD b).1 < 18446744073709551616 := rdU_lt 8 _
  apply orCall_sound E_ok mixed (rdA0b v h.next (rdA b).1 (rdD b).1 (IntKind.i64.wrap (.ofNat (rdD b).1)) (rdN b).1 (fun a0 hB => E.storeVar ((hB.row [.slice none 0 0, .int .i64 (.ofNat 0)]).row zr) 47 hB.next.succ 0 zeroG = some a0.hs ∧ J1 h True hB.next hB.next.succ 0 0 (b, 0) a0.hs)
    (fun hB hs1 h1 => E.storeVar h1 3 hB.next.succ 0 (.int .i64 (.ofNat (rdA b).1)) = some hs1 ∧ J1 h False hB.next hB.next.succ (.ofNat (rdA b).1) 0 (rdA b).2 hs1) (fun hB hs2 h2 => E.storeVar h2 3 hB.next.succ 1 (.int .i64 (IntKind.i64.wrap (.ofNat (rdD b).1))) = some hs2 ∧ J1 h False hB.next hB.next.succ (.ofNat (rdA b).1) (IntKind.i64.wrap (.ofNat (rdD b).1)) (rdD b).2 hs2)
    (fun hB _ h3 => J1 h False hB.next hB.next.succ (.ofNat (rdA b).1) (IntKind.i64.wrap (.ofNat (rdD b).1)) (rdN b).2 h3) (fun hB => Ca h b hB.next hB.next.succ) (fun _ _ hz h5 => E.storeVar h5 47 h.next 0 zeroG = some hz ∧ E.results Tryz.f18 (fr 82 [(2, ptr h.next), (3, .bool false)]) hz = some failV ∧ Keep h.next h hz) (fun _ h4 _ h5 => Keep h4.next h4 h5) (fun _ h4 w h6 => Keep h4.next h4 h6 ∧ Sl h6.next h6 w (bys (eG (rdA b).1 (rdD b).1 (rc (rdN b).1 (rdN b).2).1))) (fun _ _ hz h5 => E.storeVar h5 47 h.next 0 zeroG = some hz ∧ E.results Tryz.f18 (fr 82 [(2, ptr h.next), (3, .bool false)]) hz = some failV ∧ Keep h.next h hz))
  rw [rd_ev0b]
  refine ⟨(both_nil (h := h.row zr) (by rw [← hb]; exact hv.keep (row_keep h zr) (Nat.le_refl _))).mono ?_, ?_⟩
  · rintro x h' ⟨rfl, rfl⟩
    obtain ⟨hs, e, j⟩ := rd_start (h := h) (hB := h.row zr) (w := .slice none 0 0) (b := b) (by rw [hb]; exact .nil) (Keep.refl _ _)
    exact ⟨⟨0, 0, 0, hs⟩, rfl, e, j⟩
  rintro a0 hB ⟨e0, j0⟩
  refine ⟨e0, rfl, (rdi_num j0.rd (mx := 1099511627776) (by decide)).mono ?_, ?_⟩
  · rintro x h1 ⟨rfl, a⟩
    have j := j0.after a
    obtain ⟨hs1, e, r, k⟩ := j.grp.store0 (.ofNat (rdA b).1)
    exact ⟨hs1, rfl, e, j.set k r⟩
  rintro hs1 h1 ⟨e1, j1⟩
  refine ⟨e1, rfl, (rdi_u j1.rd (.inr rfl)).mono ?_, ?_⟩
  · rintro x h2 ⟨rfl, a⟩
    have j := j1.after a
    obtain ⟨hs2, e, r, k⟩ := j.grp.store1 (IntKind.i64.wrap (.ofNat (rdD b).1))
    exact ⟨hs2, rfl, e, j.set k r⟩
  rintro hs2 h2 ⟨e2, j2⟩
  refine ⟨rfl, e2, rfl, (rdi_num j2.rd (mx := 21) (by decide)).mono fun x h3 q => ⟨(), q.1, j2.after q.2⟩, ?_⟩
  intro _ h3 j3
  refine ⟨fun rd => rdec_loop j3 rd, ?_, fun _ _ e => e⟩
  intro x h4 q
  have hlay := q.lay
  have hnone : rdec b = none := by unfold rdec; rw [if_neg fun hh => hq hh.1 hh.2.1]
  refine ⟨q.ld, fun hc => ?_, fun hc => ?_⟩
  · have hne : x.e ≠ 0 := by simpa using hc
    obtain ⟨f1, f2, f3, _⟩ := q.bad hne
    exact ⟨f1, rfl, f2, decR_none hnone f3⟩
  have he0 : x.e = 0 := by simpa using hc
  obtain ⟨hrc, cv, ea, hsl, hone⟩ := q.ok he0
  obtain ⟨cv', hgq, ea'⟩ := q.grp
  have hld : ∀ h5, Keep h4.next h4 h5 → E.loadVar h5 47 hB.next.succ 0 = some x.agg := fun h5 k5 => by
    have := (hgq.keep (k5.get _ hgq.lt) k5.next).loadAll'
    rw [this, ea']
  have hlen := rc_len (rdN b).1 (rdN b).2
  have hN21 : (rdN b).1 ≤ 21 := rdNum_le _ _
  have hbad : ∀ h5, Keep h4.next h4 h5 → ∃ hz, E.storeVar h5 47 h.next 0 zeroG = some hz ∧ E.results Tryz.f18 (fr 82 [(2, ptr h.next), (3, .bool false)]) hz = some failV ∧ Keep h.next h hz := by
    intro h5 k5
    obtain ⟨hz, e5, r5, k6⟩ := (hlay.1.keep (k5.get _ hlay.1.lt) k5.next).storeAll' 0 0 (v := .slice none 0 0) rfl
    exact ⟨hz, e5, r5.res18 false, (hlay.2.2.trans (k5.mono hlay.2.2.next)).trans (KeepR.toKeep k6 (Nat.le_refl _) (Nat.le_trans hlay.2.2.next k5.next))⟩
  have hcb : ∀ c ∈ (rc (rdN b).1 (rdN b).2).1, c.length < 9223372036854775807 := fun c hc => by have := rc_bd _ _ c hc; omega
  refine ⟨hld _ (Keep.refl _ _), ?_, ?_⟩
  · rw [ea]
    refine (may_ok hsl (by omega) hcb).mono ?_
    rintro y h5 ⟨rfl, k5⟩
    obtain ⟨hz, f⟩ := hbad h5 k5
    exact ⟨hz, by rw [decide_eq_false (show ¬ mayN (.ofNat (rdA b).1) (rc (rdN b).1 (rdN b).2).1 from hq hrc)], f⟩
  · rintro hz h5 ⟨f1, f2, f3⟩
    exact ⟨f1, rfl, f2, decR_none hnone f3⟩
theorem rdec_0c {h : AHeap} {v : Value} {b : List UInt8} (hv : Sl h.next h v (bys b)) (hn : b.length < 4294967296) (hb : b = []) (hm : mayN (rdA b).1 (rc (rdN b).1 (rdN b).2).1) (hq : eG (rdA b).1 (rdD b).1 (rc (rdN b).1 (rdN b).2).1 ≠ b) : SC PP 18 [v] h (DecR h (rdec b)) := by
  have hDlt : (rdD b).1 < 18446744073709551616 := rdU_lt 8 _
  apply orCall_sound E_ok mixed (rdA0c v h.next (rdA b).1 (rdD b).1 (IntKind.i64.wrap (.ofNat (rdD b).1)) (rdN b).1 (fun a0 hB => E.storeVar ((hB.row [.slice none 0 0, .int .i64 (.ofNat 0)]).row zr) 47 hB.next.succ 0 zeroG = some a0.hs ∧ J1 h True hB.next hB.next.succ 0 0 (b, 0) a0.hs)
    (fun hB hs1 h1 => E.storeVar h1 3 hB.next.succ 0 (.int .i64 (.ofNat (rdA b).1)) = some hs1 ∧ J1 h False hB.next hB.next.succ (.ofNat (rdA b).1) 0 (rdA b).2 hs1) (fun hB hs2 h2 => E.storeVar h2 3 hB.next.succ 1 (.int .i64 (IntKind.i64.wrap (.ofNat (rdD b).1))) = some hs2 ∧ J1 h False hB.next hB.next.succ (.ofNat (rdA b).1) (IntKind.i64.wrap (.ofNat (rdD b).1)) (rdD b).2 hs2)
    (fun hB _ h3 => J1 h False hB.next hB.next.succ (.ofNat (rdA b).1) (IntKind.i64.wrap (.ofNat (rdD b).1)) (rdN b).2 h3) (fun hB => Ca h b hB.next hB.next.succ) (fun _ _ hz h5 => E.storeVar h5 47 h.next 0 zeroG = some hz ∧ E.results Tryz.f18 (fr 82 [(2, ptr h.next), (3, .bool false)]) hz = some failV ∧ Keep h.next h hz) (fun _ h4 _ h5 => Keep h4.next h4 h5) (fun _ h4 w h6 => Keep h4.next h4 h6 ∧ Sl h6.next h6 w (bys (eG (rdA b).1 (rdD b).1 (rc (rdN b).1 (rdN b).2).1))) (fun _ _ hz h5 => E.storeVar h5 47 h.next 0 zeroG = some hz ∧ E.results Tryz.f18 (fr 82 [(2, ptr h.next), (3, .bool false)]) hz = some failV ∧ Keep h.next h hz))
  rw [rd_ev0c]
  refine ⟨(both_nil (h := h.row zr) (by rw [← hb]; exact hv.keep (row_keep h zr) (Nat.le_refl _))).mono ?_, ?_⟩
  · rintro x h' ⟨rfl, rfl⟩
    obtain ⟨hs, e, j⟩ := rd_start (h := h) (hB := h.row zr) (w := .slice none 0 0) (b := b) (by rw [hb]; exact .nil) (Keep.refl _ _)
    exact ⟨⟨0, 0, 0, hs⟩, rfl, e, j⟩
  rintro a0 hB ⟨e0, j0⟩
  refine ⟨e0, rfl, (rdi_num j0.rd (mx := 1099511627776) (by decide)).mono ?_, ?_⟩
  · rintro x h1 ⟨rfl, a⟩
    have j := j0.after a
    obtain ⟨hs1, e, r, k⟩ := j.grp.store0 (.ofNat (rdA b).1)
    exact ⟨hs1, rfl, e, j.set k r⟩
  rintro hs1 h1 ⟨e1, j1⟩
  refine ⟨e1, rfl, (rdi_u j1.rd (.inr rfl)).mono ?_, ?_⟩
  · rintro x h2 ⟨rfl, a⟩
    have j := j1.after a
    obtain ⟨hs2, e, r, k⟩ := j.grp.store1 (IntKind.i64.wrap (.ofNat (rdD b).1))
    exact ⟨hs2, rfl, e, j.set k r⟩
  rintro hs2 h2 ⟨e2, j2⟩
  refine ⟨rfl, e2, rfl, (rdi_num j2.rd (mx := 21) (by decide)).mono fun x h3 q => ⟨(), q.1, j2.after q.2⟩, ?_⟩
  intro _ h3 j3
  refine ⟨fun rd => rdec_loop j3 rd, ?_, fun _ _ e => e⟩
  intro x h4 q
  have hlay := q.lay
  have hnone : rdec b = none := by unfold rdec; rw [if_neg fun hh => hq hh.2.2]
  refine ⟨q.ld, fun hc => ?_, fun hc => ?_⟩
  · have hne : x.e ≠ 0 := by simpa using hc
    obtain ⟨f1, f2, f3, _⟩ := q.bad hne
    exact ⟨f1, rfl, f2, decR_none hnone f3⟩
  have he0 : x.e = 0 := by simpa using hc
  obtain ⟨hrc, cv, ea, hsl, hone⟩ := q.ok he0
  obtain ⟨cv', hgq, ea'⟩ := q.grp
  have hld : ∀ h5, Keep h4.next h4 h5 → E.loadVar h5 47 hB.next.succ 0 = some x.agg := fun h5 k5 => by
    have := (hgq.keep (k5.get _ hgq.lt) k5.next).loadAll'
    rw [this, ea']
  have hlen := rc_len (rdN b).1 (rdN b).2
  have hN21 : (rdN b).1 ≤ 21 := rdNum_le _ _
  have hbad : ∀ h5, Keep h4.next h4 h5 → ∃ hz, E.storeVar h5 47 h.next 0 zeroG = some hz ∧ E.results Tryz.f18 (fr 82 [(2, ptr h.next), (3, .bool false)]) hz = some failV ∧ Keep h.next h hz := by
    intro h5 k5
    obtain ⟨hz, e5, r5, k6⟩ := (hlay.1.keep (k5.get _ hlay.1.lt) k5.next).storeAll' 0 0 (v := .slice none 0 0) rfl
    exact ⟨hz, e5, r5.res18 false, (hlay.2.2.trans (k5.mono hlay.2.2.next)).trans (KeepR.toKeep k6 (Nat.le_refl _) (Nat.le_trans hlay.2.2.next k5.next))⟩
  have hcb : ∀ c ∈ (rc (rdN b).1 (rdN b).2).1, c.length < 9223372036854775807 := fun c hc => by have := (hm.2.2.2.2 c hc).2.1; omega
  refine ⟨hld _ (Keep.refl _ _), ?_, ?_⟩
  · rw [ea]
    refine (may_ok hsl (by omega) hcb).mono ?_
    rintro y h5 ⟨rfl, k5⟩
    exact ⟨(), by rw [decide_eq_true (show mayN (.ofNat (rdA b).1) (rc (rdN b).1 (rdN b).2).1 from hm)], k5⟩
  intro _ h5 k5
  refine ⟨hld _ k5, ?_, ?_⟩
  · rw [ea]
    refine (encr_ok (N := (.ofNat (rdA b).1)) (D := (IntKind.i64.wrap (.ofNat (rdD b).1))) (hsl.keep k5 k5.next) (grpOk_may hm)).mono ?_
    rintro y h6 ⟨w, rfl, ow, k6⟩
    have hEq : encG (.ofNat (rdA b).1) (IntKind.i64.wrap (.ofNat (rdD b).1)) (rc (rdN b).1 (rdN b).2).1 = eG (rdA b).1 (rdD b).1 (rc (rdN b).1 (rdN b).2).1 := by
      unfold encG; rw [natN, numD_wrap hDlt]
    rw [hEq] at ow
    exact ⟨w, rfl, k5.trans (k6.mono k5.next), ow.sl⟩
  rintro w h6 ⟨k6, hw⟩
  have hlenG : (eG (rdA b).1 (rdD b).1 (rc (rdN b).1 (rdN b).2).1).length < 9223372036854775807 := by
    have := (grpOk_may hm).hlen
    simp only [eG, List.length_append, bts_len]
    omega
  have hv6 : Sl h6.next h6 v (bys b) := (hv.keep hlay.2.2 hlay.2.2.next).keep k6 k6.next
  refine ⟨(sameB_ok hw hv6 hlenG).mono ?_, ?_⟩
  · rintro y h7 ⟨rfl, rfl⟩
    obtain ⟨hz, f⟩ := hbad h7 k6
    exact ⟨hz, by rw [decide_eq_false hq], f⟩
  · rintro hz h7 ⟨f1, f2, f3⟩
    exact ⟨f1, rfl, f2, decR_none hnone f3⟩
theorem rdec_0d {h : AHeap} {v : Value} {b : List UInt8} (hv : Sl h.next h v (bys b)) (hn : b.length < 4294967296) (hb : b = []) (hm : mayN (rdA b).1 (rc (rdN b).1 (rdN b).2).1) (hq : eG (rdA b).1 (rdD b).1 (rc (rdN b).1 (rdN b).2).1 = b) : SC PP 18 [v] h (DecR h (rdec b)) := by
  have hDlt : (rdD b).1 < 18446744073709551616 := rdU_lt 8 _
  apply orCall_sound E_ok mixed (rdA0d v h.next (rdA b).1 (rdD b).1 (IntKind.i64.wrap (.ofNat (rdD b).1)) (rdN b).1 (fun a0 hB => E.storeVar ((hB.row [.slice none 0 0, .int .i64 (.ofNat 0)]).row zr) 47 hB.next.succ 0 zeroG = some a0.hs ∧ J1 h True hB.next hB.next.succ 0 0 (b, 0) a0.hs)
    (fun hB hs1 h1 => E.storeVar h1 3 hB.next.succ 0 (.int .i64 (.ofNat (rdA b).1)) = some hs1 ∧ J1 h False hB.next hB.next.succ (.ofNat (rdA b).1) 0 (rdA b).2 hs1) (fun hB hs2 h2 => E.storeVar h2 3 hB.next.succ 1 (.int .i64 (IntKind.i64.wrap (.ofNat (rdD b).1))) = some hs2 ∧ J1 h False hB.next hB.next.succ (.ofNat (rdA b).1) (IntKind.i64.wrap (.ofNat (rdD b).1)) (rdD b).2 hs2)
    (fun hB _ h3 => J1 h False hB.next hB.next.succ (.ofNat (rdA b).1) (IntKind.i64.wrap (.ofNat (rdD b).1)) (rdN b).2 h3) (fun hB => Ca h b hB.next hB.next.succ) (fun _ _ hz h5 => E.storeVar h5 47 h.next 0 zeroG = some hz ∧ E.results Tryz.f18 (fr 82 [(2, ptr h.next), (3, .bool false)]) hz = some failV ∧ Keep h.next h hz) (fun _ h4 _ h5 => Keep h4.next h4 h5) (fun _ h4 w h6 => Keep h4.next h4 h6 ∧ Sl h6.next h6 w (bys (eG (rdA b).1 (rdD b).1 (rc (rdN b).1 (rdN b).2).1))) (fun x h4 ht h7 => Keep h4.next h4 h7 ∧ E.storeVar h7 47 h.next 0 x.agg = some ht ∧ E.results Tryz.f18 (fr 82 [(2, ptr h.next), (3, .bool true)]) ht = some (.tuple #[x.agg, .bool true]) ∧ DecR h (rdec b) (.ret (.tuple #[x.agg, .bool true])) ht))
  rw [rd_ev0d]
  refine ⟨(both_nil (h := h.row zr) (by rw [← hb]; exact hv.keep (row_keep h zr) (Nat.le_refl _))).mono ?_, ?_⟩
  · rintro x h' ⟨rfl, rfl⟩
    obtain ⟨hs, e, j⟩ := rd_start (h := h) (hB := h.row zr) (w := .slice none 0 0) (b := b) (by rw [hb]; exact .nil) (Keep.refl _ _)
    exact ⟨⟨0, 0, 0, hs⟩, rfl, e, j⟩
  rintro a0 hB ⟨e0, j0⟩
  refine ⟨e0, rfl, (rdi_num j0.rd (mx := 1099511627776) (by decide)).mono ?_, ?_⟩
  · rintro x h1 ⟨rfl, a⟩
    have j := j0.after a
    obtain ⟨hs1, e, r, k⟩ := j.grp.store0 (.ofNat (rdA b).1)
    exact ⟨hs1, rfl, e, j.set k r⟩
  rintro hs1 h1 ⟨e1, j1⟩
  refine ⟨e1, rfl, (rdi_u j1.rd (.inr rfl)).mono ?_, ?_⟩
  · rintro x h2 ⟨rfl, a⟩
    have j := j1.after a
    obtain ⟨hs2, e, r, k⟩ := j.grp.store1 (IntKind.i64.wrap (.ofNat (rdD b).1))
    exact ⟨hs2, rfl, e, j.set k r⟩
  rintro hs2 h2 ⟨e2, j2⟩
  refine ⟨rfl, e2, rfl, (rdi_num j2.rd (mx := 21) (by decide)).mono fun x h3 q => ⟨(), q.1, j2.after q.2⟩, ?_⟩
  intro _ h3 j3
  refine ⟨fun rd => rdec_loop j3 rd, ?_, fun _ _ e => e⟩
  intro x h4 q
  have hlay := q.lay
  refine ⟨q.ld, fun hc => ?_, fun hc => ?_⟩
  · have hne : x.e ≠ 0 := by simpa using hc
    obtain ⟨f1, f2, f3, f4⟩ := q.bad hne
    exact ⟨f1, rfl, f2, decR_none (by unfold rdec; rw [if_neg fun hh => f4 hh.1]) f3⟩
  have he0 : x.e = 0 := by simpa using hc
  obtain ⟨hrc, cv, ea, hsl, hone⟩ := q.ok he0
  obtain ⟨cv', hgq, ea'⟩ := q.grp
  have hld : ∀ h5, Keep h4.next h4 h5 → E.loadVar h5 47 hB.next.succ 0 = some x.agg := fun h5 k5 => by
    have := (hgq.keep (k5.get _ hgq.lt) k5.next).loadAll'
    rw [this, ea']
  have hlen := rc_len (rdN b).1 (rdN b).2
  have hN21 : (rdN b).1 ≤ 21 := rdNum_le _ _
  have hbad : ∀ h5, Keep h4.next h4 h5 → ∃ hz, E.storeVar h5 47 h.next 0 zeroG = some hz ∧ E.results Tryz.f18 (fr 82 [(2, ptr h.next), (3, .bool false)]) hz = some failV ∧ Keep h.next h hz := by
    intro h5 k5
    obtain ⟨hz, e5, r5, k6⟩ := (hlay.1.keep (k5.get _ hlay.1.lt) k5.next).storeAll' 0 0 (v := .slice none 0 0) rfl
    exact ⟨hz, e5, r5.res18 false, (hlay.2.2.trans (k5.mono hlay.2.2.next)).trans (KeepR.toKeep k6 (Nat.le_refl _) (Nat.le_trans hlay.2.2.next k5.next))⟩
  have hcb : ∀ c ∈ (rc (rdN b).1 (rdN b).2).1, c.length < 9223372036854775807 := fun c hc => by have := (hm.2.2.2.2 c hc).2.1; omega
  refine ⟨hld _ (Keep.refl _ _), ?_, ?_⟩
  · rw [ea]
    refine (may_ok hsl (by omega) hcb).mono ?_
    rintro y h5 ⟨rfl, k5⟩
    exact ⟨(), by rw [decide_eq_true (show mayN (.ofNat (rdA b).1) (rc (rdN b).1 (rdN b).2).1 from hm)], k5⟩
  intro _ h5 k5
  refine ⟨hld _ k5, ?_, ?_⟩
  · rw [ea]
    refine (encr_ok (N := (.ofNat (rdA b).1)) (D := (IntKind.i64.wrap (.ofNat (rdD b).1))) (hsl.keep k5 k5.next) (grpOk_may hm)).mono ?_
    rintro y h6 ⟨w, rfl, ow, k6⟩
    have hEq : encG (.ofNat (rdA b).1) (IntKind.i64.wrap (.ofNat (rdD b).1)) (rc (rdN b).1 (rdN b).2).1 = eG (rdA b).1 (rdD b).1 (rc (rdN b).1 (rdN b).2).1 := by
      unfold encG; rw [natN, numD_wrap hDlt]
    rw [hEq] at ow
    exact ⟨w, rfl, k5.trans (k6.mono k5.next), ow.sl⟩
  rintro w h6 ⟨k6, hw⟩
  have hlenG : (eG (rdA b).1 (rdD b).1 (rc (rdN b).1 (rdN b).2).1).length < 9223372036854775807 := by
    have := (grpOk_may hm).hlen
    simp only [eG, List.length_append, bts_len]
    omega
  have hv6 : Sl h6.next h6 v (bys b) := (hv.keep hlay.2.2 hlay.2.2.next).keep k6 k6.next
  refine ⟨(sameB_ok hw hv6 hlenG).mono ?_, ?_⟩
  · rintro y h7 ⟨rfl, rfl⟩
    obtain ⟨ht, e5, r5, k7⟩ := (hlay.1.keep (k6.get _ hlay.1.lt) k6.next).storeAll' (.ofNat (rdA b).1) (IntKind.i64.wrap (.ofNat (rdD b).1)) hone
    have kt : Keep h.next h ht := (hlay.2.2.trans (k6.mono hlay.2.2.next)).trans (KeepR.toKeep k7 (Nat.le_refl _) (Nat.le_trans hlay.2.2.next k6.next))
    refine ⟨ht, by rw [decide_eq_true hq], k6, by rw [ea]; exact e5, by rw [ea]; exact r5.res18 true, ?_⟩
    have : rdec b = some ((rdA b).1, (rdD b).1, (rc (rdN b).1 (rdN b).2).1) := by unfold rdec; rw [if_pos ⟨hrc, hm, hq⟩]
    rw [this]
    exact ⟨kt, cv, by rw [ea], q.lists _ cv hsl ea h7 ht k6 k7 hrc rfl⟩
  · rintro ht h7 ⟨k7, f1, f2, f3⟩
    exact ⟨hld _ k7, f1, rfl, f2, f3⟩
theorem rdec_1b {h : AHeap} {v : Value} {b : List UInt8} (hv : Sl h.next h v (bys b)) (hn : b.length < 4294967296) (hb : b ≠ []) (hq : (rc (rdN b).1 (rdN b).2).2.2 = 0 → ¬ mayN (rdA b).1 (rc (rdN b).1 (rdN b).2).1) : SC PP 18 [v] h (DecR h (rdec b)) := by
  have hDlt : (rdD b).1 < 18446744073709551616 := rdU_lt 8 _
  apply orCall_sound E_ok mixed (rdA1b v h.next (rdA b).1 (rdD b).1 (IntKind.i64.wrap (.ofNat (rdD b).1)) (rdN b).1 (fun a0 hB => E.storeVar ((hB.row [.slice (some ⟨a0.b, 0, none⟩) a0.n a0.k, .int .i64 (.ofNat 0)]).row zr) 47 hB.next.succ 0 zeroG = some a0.hs ∧ J1 h True hB.next hB.next.succ 0 0 (b, 0) a0.hs)
    (fun hB hs1 h1 => E.storeVar h1 3 hB.next.succ 0 (.int .i64 (.ofNat (rdA b).1)) = some hs1 ∧ J1 h False hB.next hB.next.succ (.ofNat (rdA b).1) 0 (rdA b).2 hs1) (fun hB hs2 h2 => E.storeVar h2 3 hB.next.succ 1 (.int .i64 (IntKind.i64.wrap (.ofNat (rdD b).1))) = some hs2 ∧ J1 h False hB.next hB.next.succ (.ofNat (rdA b).1) (IntKind.i64.wrap (.ofNat (rdD b).1)) (rdD b).2 hs2)
    (fun hB _ h3 => J1 h False hB.next hB.next.succ (.ofNat (rdA b).1) (IntKind.i64.wrap (.ofNat (rdD b).1)) (rdN b).2 h3) (fun hB => Ca h b hB.next hB.next.succ) (fun _ _ hz h5 => E.storeVar h5 47 h.next 0 zeroG = some hz ∧ E.results Tryz.f18 (fr 82 [(2, ptr h.next), (3, .bool false)]) hz = some failV ∧ Keep h.next h hz) (fun _ h4 _ h5 => Keep h4.next h4 h5) (fun _ h4 w h6 => Keep h4.next h4 h6 ∧ Sl h6.next h6 w (bys (eG (rdA b).1 (rdD b).1 (rc (rdN b).1 (rdN b).2).1))) (fun _ _ hz h5 => E.storeVar h5 47 h.next 0 zeroG = some hz ∧ E.results Tryz.f18 (fr 82 [(2, ptr h.next), (3, .bool false)]) hz = some failV ∧ Keep h.next h hz))
  rw [rd_ev1b]
  refine ⟨(both_ok (h := h.row zr) (l := []) .nil (hv.keep (row_keep h zr) (Nat.le_succ _)) (by simpa using hn)).mono ?_, ?_⟩
  · rintro x h' ⟨w, rfl, o, k⟩
    rw [List.nil_append] at o
    obtain ⟨bb, n, kk, rfl⟩ := own_row o (by
      intro hh
      have := congrArg List.length hh
      rw [bys_length] at this
      exact hb (List.length_eq_zero_iff.1 this))
    obtain ⟨hs, e, j⟩ := rd_start (h := h) (o.mono (Nat.le_succ _)) k
    exact ⟨⟨bb, n, kk, hs⟩, rfl, e, j⟩
  rintro a0 hB ⟨e0, j0⟩
  refine ⟨e0, rfl, (rdi_num j0.rd (mx := 1099511627776) (by decide)).mono ?_, ?_⟩
  · rintro x h1 ⟨rfl, a⟩
    have j := j0.after a
    obtain ⟨hs1, e, r, k⟩ := j.grp.store0 (.ofNat (rdA b).1)
    exact ⟨hs1, rfl, e, j.set k r⟩
  rintro hs1 h1 ⟨e1, j1⟩
  refine ⟨e1, rfl, (rdi_u j1.rd (.inr rfl)).mono ?_, ?_⟩
  · rintro x h2 ⟨rfl, a⟩
    have j := j1.after a
    obtain ⟨hs2, e, r, k⟩ := j.grp.store1 (IntKind.i64.wrap (.ofNat (rdD b).1))
    exact ⟨hs2, rfl, e, j.set k r⟩
  rintro hs2 h2 ⟨e2, j2⟩
  refine ⟨rfl, e2, rfl, (rdi_num j2.rd (mx := 21) (by decide)).mono fun x h3 q => ⟨(), q.1, j2.after q.2⟩, ?_⟩
  intro _ h3 j3
  refine ⟨fun rd => rdec_loop j3 rd, ?_, fun _ _ e => e⟩
  intro x h4 q
  have hlay := q.lay
  have hnone : rdec b = none := by unfold rdec; rw [if_neg fun hh => hq hh.1 hh.2.1]
  refine ⟨q.ld, fun hc => ?_, fun hc => ?_⟩
  · have hne : x.e ≠ 0 := by simpa using hc
    obtain ⟨f1, f2, f3, _⟩ := q.bad hne
    exact ⟨f1, rfl, f2, decR_none hnone f3⟩
  have he0 : x.e = 0 := by simpa using hc
  obtain ⟨hrc, cv, ea, hsl, hone⟩ := q.ok he0
  obtain ⟨cv', hgq, ea'⟩ := q.grp
  have hld : ∀ h5, Keep h4.next h4 h5 → E.loadVar h5 47 hB.next.succ 0 = some x.agg := fun h5 k5 => by
    have := (hgq.keep (k5.get _ hgq.lt) k5.next).loadAll'
    rw [this, ea']
  have hlen := rc_len (rdN b).1 (rdN b).2
  have hN21 : (rdN b).1 ≤ 21 := rdNum_le _ _
  have hbad : ∀ h5, Keep h4.next h4 h5 → ∃ hz, E.storeVar h5 47 h.next 0 zeroG = some hz ∧ E.results Tryz.f18 (fr 82 [(2, ptr h.next), (3, .bool false)]) hz = some failV ∧ Keep h.next h hz := by
    intro h5 k5
    obtain ⟨hz, e5, r5, k6⟩ := (hlay.1.keep (k5.get _ hlay.1.lt) k5.next).storeAll' 0 0 (v := .slice none 0 0) rfl
    exact ⟨hz, e5, r5.res18 false, (hlay.2.2.trans (k5.mono hlay.2.2.next)).trans (KeepR.toKeep k6 (Nat.le_refl _) (Nat.le_trans hlay.2.2.next k5.next))⟩
  have hcb : ∀ c ∈ (rc (rdN b).1 (rdN b).2).1, c.length < 9223372036854775807 := fun c hc => by have := rc_bd _ _ c hc; omega
  refine ⟨hld _ (Keep.refl _ _), ?_, ?_⟩
  · rw [ea]
    refine (may_ok hsl (by omega) hcb).mono ?_
    rintro y h5 ⟨rfl, k5⟩
    obtain ⟨hz, f⟩ := hbad h5 k5
    exact ⟨hz, by rw [decide_eq_false (show ¬ mayN (.ofNat (rdA b).1) (rc (rdN b).1 (rdN b).2).1 from hq hrc)], f⟩
  · rintro hz h5 ⟨f1, f2, f3⟩
    exact ⟨f1, rfl, f2, decR_none hnone f3⟩
theorem rdec_1c {h : AHeap} {v : Value} {b : List UInt8} (hv : Sl h.next h v (bys b)) (hn : b.length < 4294967296) (hb : b ≠ []) (hm : mayN (rdA b).1 (rc (rdN b).1 (rdN b).2).1) (hq : eG (rdA b).1 (rdD b).1 (rc (rdN b).1 (rdN b).2).1 ≠ b) : SC PP 18 [v] h (DecR h (rdec b)) := by
  have hDlt : (rdD b).1 < 18446744073709551616 := rdU_lt 8 _
  apply orCall_sound E_ok mixed (rdA1c v h.next (rdA b).1 (rdD b).1 (IntKind.i64.wrap (.ofNat (rdD b).1)) (rdN b).1 (fun a0 hB => E.storeVar ((hB.row [.slice (some ⟨a0.b, 0, none⟩) a0.n a0.k, .int .i64 (.ofNat 0)]).row zr) 47 hB.next.succ 0 zeroG = some a0.hs ∧ J1 h True hB.next hB.next.succ 0 0 (b, 0) a0.hs)
    (fun hB hs1 h1 => E.storeVar h1 3 hB.next.succ 0 (.int .i64 (.ofNat (rdA b).1)) = some hs1 ∧ J1 h False hB.next hB.next.succ (.ofNat (rdA b).1) 0 (rdA b).2 hs1) (fun hB hs2 h2 => E.storeVar h2 3 hB.next.succ 1 (.int .i64 (IntKind.i64.wrap (.ofNat (rdD b).1))) = some hs2 ∧ J1 h False hB.next hB.next.succ (.ofNat (rdA b).1) (IntKind.i64.wrap (.ofNat (rdD b).1)) (rdD b).2 hs2)
    (fun hB _ h3 => J1 h False hB.next hB.next.succ (.ofNat (rdA b).1) (IntKind.i64.wrap (.ofNat (rdD b).1)) (rdN b).2 h3) (fun hB => Ca h b hB.next hB.next.succ) (fun _ _ hz h5 => E.storeVar h5 47 h.next 0 zeroG = some hz ∧ E.results Tryz.f18 (fr 82 [(2, ptr h.next), (3, .bool false)]) hz = some failV ∧ Keep h.next h hz) (fun _ h4 _ h5 => Keep h4.next h4 h5) (fun _ h4 w h6 => Keep h4.next h4 h6 ∧ Sl h6.next h6 w (bys (eG (rdA b).1 (rdD b).1 (rc (rdN b).1 (rdN b).2).1))) (fun _ _ hz h5 => E.storeVar h5 47 h.next 0 zeroG = some hz ∧ E.results Tryz.f18 (fr 82 [(2, ptr h.next), (3, .bool false)]) hz = some failV ∧ Keep h.next h hz))
  rw [rd_ev1c]
  refine ⟨(both_ok (h := h.row zr) (l := []) .nil (hv.keep (row_keep h zr) (Nat.le_succ _)) (by simpa using hn)).mono ?_, ?_⟩
  · rintro x h' ⟨w, rfl, o, k⟩
    rw [List.nil_append] at o
    obtain ⟨bb, n, kk, rfl⟩ := own_row o (by
      intro hh
      have := congrArg List.length hh
      rw [bys_length] at this
      exact hb (List.length_eq_zero_iff.1 this))
    obtain ⟨hs, e, j⟩ := rd_start (h := h) (o.mono (Nat.le_succ _)) k
    exact ⟨⟨bb, n, kk, hs⟩, rfl, e, j⟩
  rintro a0 hB ⟨e0, j0⟩
  refine ⟨e0, rfl, (rdi_num j0.rd (mx := 1099511627776) (by decide)).mono ?_, ?_⟩
  · rintro x h1 ⟨rfl, a⟩
    have j := j0.after a
    obtain ⟨hs1, e, r, k⟩ := j.grp.store0 (.ofNat (rdA b).1)
    exact ⟨hs1, rfl, e, j.set k r⟩
  rintro hs1 h1 ⟨e1, j1⟩
  refine ⟨e1, rfl, (rdi_u j1.rd (.inr rfl)).mono ?_, ?_⟩
  · rintro x h2 ⟨rfl, a⟩
    have j := j1.after a
    obtain ⟨hs2, e, r, k⟩ := j.grp.store1 (IntKind.i64.wrap (.ofNat (rdD b).1))
    exact ⟨hs2, rfl, e, j.set k r⟩
  rintro hs2 h2 ⟨e2, j2⟩
  refine ⟨rfl, e2, rfl, (rdi_num j2.rd (mx := 21) (by decide)).mono fun x h3 q => ⟨(), q.1, j2.after q.2⟩, ?_⟩
  intro _ h3 j3
  refine ⟨fun rd => rdec_loop j3 rd, ?_, fun _ _ e => e⟩
  intro x h4 q
  have hlay := q.lay
  have hnone : rdec b = none := by unfold rdec; rw [if_neg fun hh => hq hh.2.2]
  refine ⟨q.ld, fun hc => ?_, fun hc => ?_⟩
  · have hne : x.e ≠ 0 := by simpa using hc
    obtain ⟨f1, f2, f3, _⟩ := q.bad hne
    exact ⟨f1, rfl, f2, decR_none hnone f3⟩
  have he0 : x.e = 0 := by simpa using hc
  obtain ⟨hrc, cv, ea, hsl, hone⟩ := q.ok he0
  obtain ⟨cv', hgq, ea'⟩ := q.grp
  have hld : ∀ h5, Keep h4.next h4 h5 → E.loadVar h5 47 hB.next.succ 0 = some x.agg := fun h5 k5 => by
    have := (hgq.keep (k5.get _ hgq.lt) k5.next).loadAll'
    rw [this, ea']
  have hlen := rc_len (rdN b).1 (rdN b).2
  have hN21 : (rdN b).1 ≤ 21 := rdNum_le _ _
  have hbad : ∀ h5, Keep h4.next h4 h5 → ∃ hz, E.storeVar h5 47 h.next 0 zeroG = some hz ∧ E.results Tryz.f18 (fr 82 [(2, ptr h.next), (3, .bool false)]) hz = some failV ∧ Keep h.next h hz := by
    intro h5 k5
    obtain ⟨hz, e5, r5, k6⟩ := (hlay.1.keep (k5.get _ hlay.1.lt) k5.next).storeAll' 0 0 (v := .slice none 0 0) rfl
    exact ⟨hz, e5, r5.res18 false, (hlay.2.2.trans (k5.mono hlay.2.2.next)).trans (KeepR.toKeep k6 (Nat.le_refl _) (Nat.le_trans hlay.2.2.next k5.next))⟩
  have hcb : ∀ c ∈ (rc (rdN b).1 (rdN b).2).1, c.length < 9223372036854775807 := fun c hc => by have := (hm.2.2.2.2 c hc).2.1; omega
  refine ⟨hld _ (Keep.refl _ _), ?_, ?_⟩
  · rw [ea]
    refine (may_ok hsl (by omega) hcb).mono ?_
    rintro y h5 ⟨rfl, k5⟩
    exact ⟨(), by rw [decide_eq_true (show mayN (.ofNat (rdA b).1) (rc (rdN b).1 (rdN b).2).1 from hm)], k5⟩
  intro _ h5 k5
  refine ⟨hld _ k5, ?_, ?_⟩
  · rw [ea]
    refine (encr_ok (N := (.ofNat (rdA b).1)) (D := (IntKind.i64.wrap (.ofNat (rdD b).1))) (hsl.keep k5 k5.next) (grpOk_may hm)).mono ?_
    rintro y h6 ⟨w, rfl, ow, k6⟩
    have hEq : encG (.ofNat (rdA b).1) (IntKind.i64.wrap (.ofNat (rdD b).1)) (rc (rdN b).1 (rdN b).2).1 = eG (rdA b).1 (rdD b).1 (rc (rdN b).1 (rdN b).2).1 := by
      unfold encG; rw [natN, numD_wrap hDlt]
    rw [hEq] at ow
    exact ⟨w, rfl, k5.trans (k6.mono k5.next), ow.sl⟩
  rintro w h6 ⟨k6, hw⟩
  have hlenG : (eG (rdA b).1 (rdD b).1 (rc (rdN b).1 (rdN b).2).1).length < 9223372036854775807 := by
    have := (grpOk_may hm).hlen
    simp only [eG, List.length_append, bts_len]
    omega
  have hv6 : Sl h6.next h6 v (bys b) := (hv.keep hlay.2.2 hlay.2.2.next).keep k6 k6.next
  refine ⟨(sameB_ok hw hv6 hlenG).mono ?_, ?_⟩
  · rintro y h7 ⟨rfl, rfl⟩
    obtain ⟨hz, f⟩ := hbad h7 k6
    exact ⟨hz, by rw [decide_eq_false hq], f⟩
  · rintro hz h7 ⟨f1, f2, f3⟩
    exact ⟨f1, rfl, f2, decR_none hnone f3⟩
theorem rdec_1d {h : AHeap} {v : Value} {b : List UInt8} (hv : Sl h.next h v (bys b)) (hn : b.length < 4294967296) (hb : b ≠ []) (hm : mayN (rdA b).1 (rc (rdN b).1 (rdN b).2).1) (hq : eG (rdA b).1 (rdD b).1 (rc (rdN b).1 (rdN b).2).1 = b) : SC PP 18 [v] h (DecR h (rdec b)) := by
  have hDlt : (rdD b).1 < 18446744073709551616 := rdU_lt 8 _
  apply orCall_sound E_ok mixed (rdA1d v h.next (rdA b).1 (rdD b).1 (IntKind.i64.wrap (.ofNat (rdD b).1)) (rdN b).1 (fun a0 hB => E.storeVar ((hB.row [.slice (some ⟨a0.b, 0, none⟩) a0.n a0.k, .int .i64 (.ofNat 0)]).row zr) 47 hB.next.succ 0 zeroG = some a0.hs ∧ J1 h True hB.next hB.next.succ 0 0 (b, 0) a0.hs)
    (fun hB hs1 h1 => E.storeVar h1 3 hB.next.succ 0 (.int .i64 (.ofNat (rdA b).1)) = some hs1 ∧ J1 h False hB.next hB.next.succ (.ofNat (rdA b).1) 0 (rdA b).2 hs1) (fun hB hs2 h2 => E.storeVar h2 3 hB.next.succ 1 (.int .i64 (IntKind.i64.wrap (.ofNat (rdD b).1))) = some hs2 ∧ J1 h False hB.next hB.next.succ (.ofNat (rdA b).1) (IntKind.i64.wrap (.ofNat (rdD b).1)) (rdD b).2 hs2)
    (fun hB _ h3 => J1 h False hB.next hB.next.succ (.ofNat (rdA b).1) (IntKind.i64.wrap (.ofNat (rdD b).1)) (rdN b).2 h3) (fun hB => Ca h b hB.next hB.next.succ) (fun _ _ hz h5 => E.storeVar h5 47 h.next 0 zeroG = some hz ∧ E.results Tryz.f18 (fr 82 [(2, ptr h.next), (3, .bool false)]) hz = some failV ∧ Keep h.next h hz) (fun _ h4 _ h5 => Keep h4.next h4 h5) (fun _ h4 w h6 => Keep h4.next h4 h6 ∧ Sl h6.next h6 w (bys (eG (rdA b).1 (rdD b).1 (rc (rdN b).1 (rdN b).2).1))) (fun x h4 ht h7 => Keep h4.next h4 h7 ∧ E.storeVar h7 47 h.next 0 x.agg = some ht ∧ E.results Tryz.f18 (fr 82 [(2, ptr h.next), (3, .bool true)]) ht = some (.tuple #[x.agg, .bool true]) ∧ DecR h (rdec b) (.ret (.tuple #[x.agg, .bool true])) ht))
  rw [rd_ev1d]
  refine ⟨(both_ok (h := h.row zr) (l := []) .nil (hv.keep (row_keep h zr) (Nat.le_succ _)) (by simpa using hn)).mono ?_, ?_⟩
  · rintro x h' ⟨w, rfl, o, k⟩
    rw [List.nil_append] at o
    obtain ⟨bb, n, kk, rfl⟩ := own_row o (by
      intro hh
      have := congrArg List.length hh
      rw [bys_length] at this
      exact hb (List.length_eq_zero_iff.1 this))
    obtain ⟨hs, e, j⟩ := rd_start (h := h) (o.mono (Nat.le_succ _)) k
    exact ⟨⟨bb, n, kk, hs⟩, rfl, e, j⟩
  rintro a0 hB ⟨e0, j0⟩
  refine ⟨e0, rfl, (rdi_num j0.rd (mx := 1099511627776) (by decide)).mono ?_, ?_⟩
  · rintro x h1 ⟨rfl, a⟩
    have j := j0.after a
    obtain ⟨hs1, e, r, k⟩ := j.grp.store0 (.ofNat (rdA b).1)
    exact ⟨hs1, rfl, e, j.set k r⟩
  rintro hs1 h1 ⟨e1, j1⟩
  refine ⟨e1, rfl, (rdi_u j1.rd (.inr rfl)).mono ?_, ?_⟩
  · rintro x h2 ⟨rfl, a⟩
    have j := j1.after a
    obtain ⟨hs2, e, r, k⟩ := j.grp.store1 (IntKind.i64.wrap (.ofNat (rdD b).1))
    exact ⟨hs2, rfl, e, j.set k r⟩
  rintro hs2 h2 ⟨e2, j2⟩
  refine ⟨rfl, e2, rfl, (rdi_num j2.rd (mx := 21) (by decide)).mono fun x h3 q => ⟨(), q.1, j2.after q.2⟩, ?_⟩
  intro _ h3 j3
  refine ⟨fun rd => rdec_loop j3 rd, ?_, fun _ _ e => e⟩
  intro x h4 q
  have hlay := q.lay
  refine ⟨q.ld, fun hc => ?_, fun hc => ?_⟩
  · have hne : x.e ≠ 0 := by simpa using hc
    obtain ⟨f1, f2, f3, f4⟩ := q.bad hne
    exact ⟨f1, rfl, f2, decR_none (by unfold rdec; rw [if_neg fun hh => f4 hh.1]) f3⟩
  have he0 : x.e = 0 := by simpa using hc
  obtain ⟨hrc, cv, ea, hsl, hone⟩ := q.ok he0
  obtain ⟨cv', hgq, ea'⟩ := q.grp
  have hld : ∀ h5, Keep h4.next h4 h5 → E.loadVar h5 47 hB.next.succ 0 = some x.agg := fun h5 k5 => by
    have := (hgq.keep (k5.get _ hgq.lt) k5.next).loadAll'
    rw [this, ea']
  have hlen := rc_len (rdN b).1 (rdN b).2
  have hN21 : (rdN b).1 ≤ 21 := rdNum_le _ _
  have hbad : ∀ h5, Keep h4.next h4 h5 → ∃ hz, E.storeVar h5 47 h.next 0 zeroG = some hz ∧ E.results Tryz.f18 (fr 82 [(2, ptr h.next), (3, .bool false)]) hz = some failV ∧ Keep h.next h hz := by
    intro h5 k5
    obtain ⟨hz, e5, r5, k6⟩ := (hlay.1.keep (k5.get _ hlay.1.lt) k5.next).storeAll' 0 0 (v := .slice none 0 0) rfl
    exact ⟨hz, e5, r5.res18 false, (hlay.2.2.trans (k5.mono hlay.2.2.next)).trans (KeepR.toKeep k6 (Nat.le_refl _) (Nat.le_trans hlay.2.2.next k5.next))⟩
  have hcb : ∀ c ∈ (rc (rdN b).1 (rdN b).2).1, c.length < 9223372036854775807 := fun c hc => by have := (hm.2.2.2.2 c hc).2.1; omega
  refine ⟨hld _ (Keep.refl _ _), ?_, ?_⟩
  · rw [ea]
    refine (may_ok hsl (by omega) hcb).mono ?_
    rintro y h5 ⟨rfl, k5⟩
    exact ⟨(), by rw [decide_eq_true (show mayN (.ofNat (rdA b).1) (rc (rdN b).1 (rdN b).2).1 from hm)], k5⟩
  intro _ h5 k5
  refine ⟨hld _ k5, ?_, ?_⟩
  · rw [ea]
    refine (encr_ok (N := (.ofNat (rdA b).1)) (D := (IntKind.i64.wrap (.ofNat (rdD b).1))) (hsl.keep k5 k5.next) (grpOk_may hm)).mono ?_
    rintro y h6 ⟨w, rfl, ow, k6⟩
    have hEq : encG (.ofNat (rdA b).1) (IntKind.i64.wrap (.ofNat (rdD b).1)) (rc (rdN b).1 (rdN b).2).1 = eG (rdA b).1 (rdD b).1 (rc (rdN b).1 (rdN b).2).1 := by
      unfold encG; rw [natN, numD_wrap hDlt]
    rw [hEq] at ow
    exact ⟨w, rfl, k5.trans (k6.mono k5.next), ow.sl⟩
  rintro w h6 ⟨k6, hw⟩
  have hlenG : (eG (rdA b).1 (rdD b).1 (rc (rdN b).1 (rdN b).2).1).length < 9223372036854775807 := by
    have := (grpOk_may hm).hlen
    simp only [eG, List.length_append, bts_len]
    omega
  have hv6 : Sl h6.next h6 v (bys b) := (hv.keep hlay.2.2 hlay.2.2.next).keep k6 k6.next
  refine ⟨(sameB_ok hw hv6 hlenG).mono ?_, ?_⟩
  · rintro y h7 ⟨rfl, rfl⟩
    obtain ⟨ht, e5, r5, k7⟩ := (hlay.1.keep (k6.get _ hlay.1.lt) k6.next).storeAll' (.ofNat (rdA b).1) (IntKind.i64.wrap (.ofNat (rdD b).1)) hone
    have kt : Keep h.next h ht := (hlay.2.2.trans (k6.mono hlay.2.2.next)).trans (KeepR.toKeep k7 (Nat.le_refl _) (Nat.le_trans hlay.2.2.next k6.next))
    refine ⟨ht, by rw [decide_eq_true hq], k6, by rw [ea]; exact e5, by rw [ea]; exact r5.res18 true, ?_⟩
    have : rdec b = some ((rdA b).1, (rdD b).1, (rc (rdN b).1 (rdN b).2).1) := by unfold rdec; rw [if_pos ⟨hrc, hm, hq⟩]
    rw [this]
    exact ⟨kt, cv, by rw [ea], q.lists _ cv hsl ea h7 ht k6 k7 hrc rfl⟩
  · rintro ht h7 ⟨k7, f1, f2, f3⟩
    exact ⟨hld _ k7, f1, rfl, f2, f3⟩
theorem rdec_ok {h : AHeap} {v : Value} {b : List UInt8} (hv : Sl h.next h v (bys b)) (hn : b.length < 4294967296) : SC PP 18 [v] h (DecR h (rdec b)) := by
  by_cases hb : b = []
  · by_cases h1 : mayN (rdA b).1 (rc (rdN b).1 (rdN b).2).1
    · by_cases h2 : eG (rdA b).1 (rdD b).1 (rc (rdN b).1 (rdN b).2).1 = b
      · exact rdec_0d hv hn hb h1 h2
      · exact rdec_0c hv hn hb h1 h2
    · exact rdec_0b hv hn hb fun _ => h1
  · by_cases h1 : mayN (rdA b).1 (rc (rdN b).1 (rdN b).2).1
    · by_cases h2 : eG (rdA b).1 (rdD b).1 (rc (rdN b).1 (rdN b).2).1 = b
      · exact rdec_1d hv hn hb h1 h2
      · exact rdec_1c hv hn hb h1 h2
    · exact rdec_1b hv hn hb fun _ => h1
end
end Go.Proofs.YtkkbpknpongmfaaGreatDoor
