/- SessCodes answers true. -/
import Derived.Test.YtkkbpknpongmfaaGreatDoorBase
import Derived.Test.YtkkbpknpongmfaaGreatDoorAbsC
namespace Go.Proofs.YtkkbpknpongmfaaGreatDoor
open Go Go.Abs Classical
noncomputable section
theorem varsOk_keep {h h' : AHeap} {B : Nat} (k : Keep B h h') : ∀ (l : List (List Value)) (b : Nat), b + l.length ≤ B → varsOk h' b l = varsOk h b l
  | [], _, _ => rfl
  | vs :: l, b, hb => by
    simp only [List.length_cons] at hb
    unfold varsOk
    rw [k.ng, loadN_get (k.get b (by omega)), varsOk_keep k l (Nat.succ b) (by omega)]
theorem vars_keep {h h' : AHeap} {B : Nat} (k : Keep B h h') (hB : 3 ≤ B) (hv : varsOk h 0 varL = true) : varsOk h' 0 varL = true := by
  rw [varsOk_keep k varL 0 (by exact hB)]; exact hv
theorem aw_ok {h : AHeap} (hv : varsOk h 0 varL = true) : SC PP 6 [] h (fun r _ => ∃ _ : Unit, r = .ret (.bool true) ∧ True) := by
  have e : keepEv varL (.bool true) [] h (fun r _ => decide (r = .ret (.bool true))) = true := by
    unfold keepEv
    rw [hv]; simp
  refine (keepEv_ok rfl (by decide) awake_runs [] h _ e).mono ?_
  intro r h' q
  exact ⟨(), of_decide_eq_true q, trivial⟩
theorem awP {h : AHeap} {X : AHeap → Prop} (hv : varsOk h 0 varL = true) (x : ∀ h', X h') : AwP h X := ⟨aw_ok hv, fun _ h' _ => x h'⟩

/-! The guards. -/
theorem guard_in {cv u vb : Value} {N D S : Int} {g i b o B : Nat} {c : Ws} {H : AHeap} {rd : Option Nat} (hv : varsOk H 0 varL = true) (r : Grp g H N D cv) (e1 : E.vIndexAddr 30 cv i = some (pto b o)) (e2 : E.loadVar H 23 b o = some u) (hu : Sl B H u (c.map str)) (hc : c.length < 9223372036854775807) :
    SW PP rd (.loop (bodyOf 4 1)) (frGi vb g i 0 S) H (LQ 2 (fun S : Int => frG vb g i S) (fun _ h' => h' = H) (fun _ : Unit => frT) (fun _ _ => True)) := by
  refine loop_or [1,2,4,5,6,7] (fun k f h => ∃ j S, j + k = c.length ∧ f = frGi vb g i j S ∧ h = H) ?_ (k := c.length) ⟨0, S, by omega, rfl, rfl⟩
  rintro k f h ⟨j, S, hk, rfl, rfl⟩
  have l4 := Sl.lenS (h' := h) hu 9
  by_cases hj : j < c.length
  · obtain ⟨b2, o2, _, f1, f2⟩ := Sl.atS hu j hj
    refine ⟨gi cv u c.length b o b2 o2 c[j], ?_⟩
    rw [gi_ev]
    refine ⟨r.load2, e1, e2, l4, fun _ => ⟨r.load2, e1, e2, f1, f2, rfl, fun _ => awP hv fun h' => ?_, fun _ => ?_⟩, fun hc => absurd (Int.ofNat_lt.2 hj) (of_decide_eq_false hc)⟩
    · exact .inr ⟨rfl, (), (show Less (keepF [4] (fr 127 [(1, vb), (2, ptr g), (4, .bool true), (5, .int .i64 (IntKind.i64.wrap (S + minI (c[j]).length))), (6, .int .i64 (.ofNat i)), (7, .int .i64 (.ofNat j))])) _ from keepF_less _ _), trivial⟩
    · refine ⟨k - 1, by omega, j + 1, IntKind.i64.wrap (S + minI (c[j]).length), by omega, ?_, rfl⟩
      rw [wrap_succ (by omega)]
  · refine ⟨gi cv u c.length b o 0 0 [], ?_⟩
    rw [gi_ev]
    exact ⟨r.load2, e1, e2, l4, fun hc => absurd (Int.ofNat_lt.1 (of_decide_eq_true hc)) hj, fun _ => .inl ⟨rfl, S, (show Less (keepF [1,2,5,6] (frGi vb g i j S)) _ from keepF_less _ _), rfl⟩⟩
theorem guard_out {cv vb : Value} {N D : Int} {g B : Nat} {cs : List Ws} {H : AHeap} {rd : Option Nat} (hv : varsOk H 0 varL = true) (r : Grp g H N D cv) (hg : SlG B H cv cs) (hcl : ∀ c ∈ cs, c.length < 9223372036854775807) :
    SW PP rd (.loop (bodyOf 4 0)) (frG vb g 0 (.ofNat 0)) H (LQ 0 (fun _ : Int => fr 127 [(1, vb), (2, ptr g)]) (fun _ h' => h' = H ∧ (cs.length ≤ 60 → ∀ c ∈ cs, c.length ≤ 60)) (fun _ : Unit => frT) (fun _ _ => True)) := by
  refine loop_or [1,2,4,5,6] (fun k f h => ∃ i S, i + k = 60 ∧ f = frG vb g i S ∧ h = H ∧ i ≤ cs.length ∧ ∀ c ∈ cs.take i, c.length ≤ 60) ?_ (k := 60) ⟨0, .ofNat 0, by omega, rfl, rfl, by omega, by simp⟩
  rintro k f h ⟨i, S, hk, rfl, rfl, hin, hall⟩
  have l4 := hg.len (h' := h) 23
  have hexit : (cs.length ≤ 60 → ∀ c ∈ cs, c.length ≤ 60) → LQ 0 (fun _ : Int => fr 127 [(1, vb), (2, ptr g)]) (fun _ h' => h' = h ∧ (cs.length ≤ 60 → ∀ c ∈ cs, c.length ≤ 60)) (fun _ : Unit => frT) (fun _ _ => True) (.exit 0) (keepF [1,2,4,5,6] (frG vb g i S)) h := fun hh =>
    .inl ⟨rfl, S, (show Less (keepF [1,2] (frG vb g i S)) _ from keepF_less _ _), rfl, hh⟩
  by_cases hi : i < cs.length
  · obtain ⟨b, o, u, _, e1, e2, hs⟩ := hg.at i hi
    have hci := hcl cs[i] (List.getElem_mem _)
    refine ⟨go h vb cv u g cs.length i (cs[i]).length b o, ?_⟩
    rw [go_ev]
    refine ⟨r.load2, l4, fun _ => ⟨fun h60 => ⟨r.load2, e1, e2, Sl.lenS hs 9, fun _ => awP hv fun h' => ?_, fun hc => ⟨fun rd => guard_in hv r e1 e2 hs hci, ?_, ?_⟩⟩, fun h60 => ?_⟩, fun hc => absurd (Int.ofNat_lt.2 hi) (of_decide_eq_false hc)⟩
    · exact .inr ⟨rfl, (), (show Less (keepF [4] (fr 127 [(1, vb), (2, ptr g), (4, .bool true), (5, .int .i64 S), (6, .int .i64 (.ofNat i))])) _ from keepF_less _ _), trivial⟩
    · rintro S' h' rfl
      have h60 := Int.ofNat_lt.1 (of_decide_eq_true h60)
      have hc : ¬ 60 < (cs[i]).length := fun hh => of_decide_eq_false hc (Int.ofNat_lt.2 hh)
      refine ⟨k - 1, by omega, i + 1, S', by omega, ?_, rfl, by omega, ?_⟩
      · rw [wrap_succ (by omega)]
      · intro c hc'
        rw [List.take_add_one, List.getElem?_eq_getElem hi] at hc'
        rcases List.mem_append.1 hc' with hc' | hc'
        · exact hall c hc'
        · simp at hc'; subst hc'; omega
    · intro _ h' _
      exact .inr ⟨rfl, (), Less.refl _, trivial⟩
    · have h60 : ¬ i < 60 := fun hh => of_decide_eq_false h60 (Int.ofNat_lt.2 hh)
      exact hexit fun hh => by omega
  · refine ⟨go h vb cv undef g cs.length i 0 0 0, ?_⟩
    rw [go_ev]
    refine ⟨r.load2, l4, fun hc => absurd (Int.ofNat_lt.1 (of_decide_eq_true hc)) hi, fun _ => hexit fun _ => ?_⟩
    rwa [List.take_of_length_le (by omega)] at hall

/-! What was read, whatever it is. -/
def nOf : Option G3 → Int
  | none => .ofNat 0
  | some g => .ofNat g.1
def dOf : Option G3 → Int
  | none => .ofNat 0
  | some g => IntKind.i64.wrap (.ofNat g.2.1)
def lOf : Option G3 → List Ws
  | none => []
  | some g => g.2.2
theorem sl_one {B : Nat} {h : AHeap} {v : Value} {l : List Value} (s : Sl B h v l) : oneCell v = true := by cases s <;> rfl
theorem DecR.un {h h' : AHeap} {o : Option G3} {x : ARet} (d : DecR h o x h') : ∃ cw, x = .ret (.tuple #[.agg #[.int .i64 (nOf o), .int .i64 (dOf o), cw], .bool o.isSome]) ∧ SlG h'.next h' cw (lOf o) ∧ oneCell cw = true ∧ Keep h.next h h' := by
  obtain ⟨k, d⟩ := d
  cases o with
  | none => exact ⟨.slice none 0 0, d, SlG.nil _ _, rfl, k⟩
  | some g =>
    obtain ⟨cw, e, s⟩ := d
    obtain ⟨lv, h1, h2⟩ := s.ex
    exact ⟨cw, e, s, sl_one h1, k⟩
/-- What was read, in a cell of its own. -/
structure XF (o : Option G3) (q : Nat) (x : Value × AHeap) : Prop where
  ex : ∃ cw, x.1 = .agg #[.int .i64 (nOf o), .int .i64 (dOf o), cw] ∧ Grp q x.2 (nOf o) (dOf o) cw ∧ SlG x.2.next x.2 cw (lOf o)
theorem XF.mk42 {h h2 : AHeap} {o : Option G3} {x : ARet} (d : DecR h o x h2) : ∃ y : Value × AHeap, x = .ret (.tuple #[y.1, .bool o.isSome]) ∧ E.storeVar (h2.row zr) 42 h2.next 0 y.1 = some y.2 ∧ XF o h2.next y ∧ Keep h.next h y.2 := by
  obtain ⟨cw, e, s, ho, k⟩ := d.un
  obtain ⟨hs, e1, r, k1⟩ := (Grp.row h2 0 0 (.slice none 0 0)).storeAll (nOf o) (dOf o) ho
  have kk : Keep h2.next h2 hs := (row_keep h2 zr).trans (KeepR.toKeep k1 (Nat.le_refl _) (Nat.le_succ _))
  exact ⟨(_, hs), e, e1, ⟨cw, rfl, r, s.keep kk kk.next⟩, k.trans (kk.mono k.next)⟩
theorem XF.mk47 {h h2 : AHeap} {o : Option G3} {x : ARet} (d : DecR h o x h2) : ∃ y : Value × AHeap, x = .ret (.tuple #[y.1, .bool o.isSome]) ∧ E.storeVar (h2.row zr) 47 h2.next 0 y.1 = some y.2 ∧ XF o h2.next y ∧ Keep h.next h y.2 := by
  obtain ⟨cw, e, s, ho, k⟩ := d.un
  obtain ⟨hs, e1, r, k1⟩ := (Grp.row h2 0 0 (.slice none 0 0)).storeAll' (nOf o) (dOf o) ho
  have kk : Keep h2.next h2 hs := (row_keep h2 zr).trans (KeepR.toKeep k1 (Nat.le_refl _) (Nat.le_succ _))
  exact ⟨(_, hs), e, e1, ⟨cw, rfl, r, s.keep kk kk.next⟩, k.trans (kk.mono k.next)⟩
theorem XF.load {o : Option G3} {q : Nat} {x : Value × AHeap} (t : XF o q x) {h : AHeap} (k : Keep x.2.next x.2 h) : E.loadVar h 42 q 0 = some x.1 ∧ E.loadVar h 47 q 0 = some x.1 := by
  obtain ⟨cw, e, g, _⟩ := t.ex
  have := g.keep (k.get q g.lt) k.next
  exact ⟨by rw [this.loadAll, e], by rw [this.loadAll', e]⟩
theorem lOf_lt {b : List UInt8} : (lOf (dec b)).length < 9223372036854775807 ∧ ∀ c ∈ lOf (dec b), c.length < 9223372036854775807 := by
  cases e : dec b with
  | none => simp [lOf]
  | some g =>
    obtain ⟨_, _, hm⟩ := dec_inv e
    obtain ⟨_, _, _, h4, h5⟩ := hm
    exact ⟨by show g.2.2.length < _; omega, fun c hc => by have := (h5 c hc).2.1; omega⟩
/-- Same, of what was read twice. -/
theorem sameX {o : Option G3} {q1 q2 : Nat} {x y : Value × AHeap} {h : AHeap} (tx : XF o q1 x) (ty : XF o q2 y) (kx : Keep x.2.next x.2 h) (ky : Keep y.2.next y.2 h) (hl : (lOf o).length < 9223372036854775807 ∧ ∀ c ∈ lOf o, c.length < 9223372036854775807) :
    SC PP 11 [x.1, y.1] h (fun r h' => r = .ret (.bool true) ∧ Keep h.next h h') := by
  obtain ⟨cw, e, _, s⟩ := tx.ex
  obtain ⟨cw2, e2, _, s2⟩ := ty.ex
  rw [e, e2]
  exact sameG_ok (s.keep kx kx.next) (s2.keep ky ky.next) hl.1 hl.2

theorem rest_true {vb : Value} {b : List UInt8} {H h6 : AHeap} {Q : ARet → AHeap → Prop} (hQ : ∀ h, Q (.ret (.bool true)) h) (kH : Keep H.next H h6) (hb : Sl H.next H vb (bys b)) (hbl : b.length < 4294967296) (hv : varsOk H 0 varL = true) (h3 : 3 ≤ H.next) (ho : (dec b).isSome = true) :
    (SC PP 14 [vb] h6 (fun r h7 => ∃ y : Value × AHeap, r = .ret (.tuple #[y.1, .bool true]) ∧ (E.storeVar (h7.row zr) 42 h7.next 0 y.1 = some y.2 ∧ XF (dec b) h7.next y ∧ Keep H.next H y.2)) ∧ ∀ (y : Value × AHeap) (h7 : AHeap), (E.storeVar (h7.row zr) 42 h7.next 0 y.1 = some y.2 ∧ XF (dec b) h7.next y ∧ Keep H.next H y.2) →
        (E.storeVar (h7.row zr) 42 h7.next 0 y.1 = some y.2 ∧ undef = undef ∧ SC PP 18 [vb] y.2 (fun r h8 => ∃ z : Value × AHeap, r = .ret (.tuple #[z.1, .bool true]) ∧ (E.storeVar (h8.row zr) 47 h8.next 0 z.1 = some z.2 ∧ XF (dec b) h8.next z ∧ XF (dec b) h7.next y ∧ Keep y.2.next y.2 z.2 ∧ Keep H.next H y.2)) ∧ ∀ (z : Value × AHeap) (h8 : AHeap), (E.storeVar (h8.row zr) 47 h8.next 0 z.1 = some z.2 ∧ XF (dec b) h8.next z ∧ XF (dec b) h7.next y ∧ Keep y.2.next y.2 z.2 ∧ Keep H.next H y.2) →
          (E.storeVar (h8.row zr) 47 h8.next 0 z.1 = some z.2 ∧ undef = undef ∧ E.loadVar z.2 42 h7.next 0 = some y.1 ∧ E.loadVar z.2 47 h8.next 0 = some z.1 ∧ SC PP 11 [y.1, z.1] z.2 (fun r h' => ∃ _ : Unit, r = .ret (.bool true) ∧ varsOk h' 0 varL = true) ∧ ∀ (_ : Unit) (h9 : AHeap), varsOk h9 0 varL = true →
            AwP h9 fun h' => Q (.ret (.bool true)) h'))) := by
  refine ⟨(dec_ok (hb.keep kH kH.next) hbl).mono ?_, ?_⟩
  · intro x h7 d
    obtain ⟨y, e, e1, t, k⟩ := XF.mk42 d
    exact ⟨y, by rw [e, ho], e1, t, kH.trans (k.mono kH.next)⟩
  rintro y h7 ⟨e1, ty, ky⟩
  refine ⟨e1, rfl, (rdec_ok (hb.keep ky ky.next) hbl).mono ?_, ?_⟩
  · intro x h8 d
    rw [← dec_rdec b hbl] at d
    obtain ⟨z, e, e2, t, k⟩ := XF.mk47 d
    exact ⟨z, by rw [e, ho], e2, t, ty, k, ky⟩
  rintro z h8 ⟨e2, tz, _, kz, _⟩
  refine ⟨e2, rfl, (ty.load kz).1, (tz.load (Keep.refl _ _)).2, (sameX ty tz kz (Keep.refl _ _) lOf_lt).mono ?_, fun _ h9 hv9 => awP hv9 hQ⟩
  rintro x h9 ⟨rfl, k9⟩
  have k69 : Keep H.next H h9 := (ky.trans (kz.mono ky.next)).trans (k9.mono (Nat.le_trans ky.next kz.next))
  exact ⟨(), rfl, vars_keep k69 h3 hv⟩
theorem rest_false {vb : Value} {b : List UInt8} {H h6 : AHeap} {Q : ARet → AHeap → Prop} (hQ : ∀ h, Q (.ret (.bool true)) h) (kH : Keep H.next H h6) (hb : Sl H.next H vb (bys b)) (hbl : b.length < 4294967296) (hv : varsOk H 0 varL = true) (h3 : 3 ≤ H.next) (ho : (dec b).isSome = false) :
    (SC PP 14 [vb] h6 (fun r h7 => ∃ y : Value × AHeap, r = .ret (.tuple #[y.1, .bool false]) ∧ (E.storeVar (h7.row zr) 42 h7.next 0 y.1 = some y.2 ∧ XF (dec b) h7.next y ∧ Keep H.next H y.2)) ∧ ∀ (y : Value × AHeap) (h7 : AHeap), (E.storeVar (h7.row zr) 42 h7.next 0 y.1 = some y.2 ∧ XF (dec b) h7.next y ∧ Keep H.next H y.2) →
        (E.storeVar (h7.row zr) 42 h7.next 0 y.1 = some y.2 ∧ undef = undef ∧ SC PP 18 [vb] y.2 (fun r h8 => ∃ z : Value × AHeap, r = .ret (.tuple #[z.1, .bool false]) ∧ (E.storeVar (h8.row zr) 47 h8.next 0 z.1 = some z.2 ∧ XF (dec b) h8.next z ∧ XF (dec b) h7.next y ∧ Keep y.2.next y.2 z.2 ∧ Keep H.next H y.2)) ∧ ∀ (z : Value × AHeap) (h8 : AHeap), (E.storeVar (h8.row zr) 47 h8.next 0 z.1 = some z.2 ∧ XF (dec b) h8.next z ∧ XF (dec b) h7.next y ∧ Keep y.2.next y.2 z.2 ∧ Keep H.next H y.2) →
          (E.storeVar (h8.row zr) 47 h8.next 0 z.1 = some z.2 ∧ undef = undef ∧ E.loadVar z.2 42 h7.next 0 = some y.1 ∧ E.loadVar z.2 47 h8.next 0 = some z.1 ∧ SC PP 11 [y.1, z.1] z.2 (fun r h' => ∃ _ : Unit, r = .ret (.bool true) ∧ varsOk h' 0 varL = true) ∧ ∀ (_ : Unit) (h9 : AHeap), varsOk h9 0 varL = true →
            AwP h9 fun h' => Q (.ret (.bool true)) h'))) := by
  refine ⟨(dec_ok (hb.keep kH kH.next) hbl).mono ?_, ?_⟩
  · intro x h7 d
    obtain ⟨y, e, e1, t, k⟩ := XF.mk42 d
    exact ⟨y, by rw [e, ho], e1, t, kH.trans (k.mono kH.next)⟩
  rintro y h7 ⟨e1, ty, ky⟩
  refine ⟨e1, rfl, (rdec_ok (hb.keep ky ky.next) hbl).mono ?_, ?_⟩
  · intro x h8 d
    rw [← dec_rdec b hbl] at d
    obtain ⟨z, e, e2, t, k⟩ := XF.mk47 d
    exact ⟨z, by rw [e, ho], e2, t, ty, k, ky⟩
  rintro z h8 ⟨e2, tz, _, kz, _⟩
  refine ⟨e2, rfl, (ty.load kz).1, (tz.load (Keep.refl _ _)).2, (sameX ty tz kz (Keep.refl _ _) lOf_lt).mono ?_, fun _ h9 hv9 => awP hv9 hQ⟩
  rintro x h9 ⟨rfl, k9⟩
  have k69 : Keep H.next H h9 := (ky.trans (kz.mono ky.next)).trans (k9.mono (Nat.le_trans ky.next kz.next))
  exact ⟨(), rfl, vars_keep k69 h3 hv⟩

theorem wrap_i64_u64 {D : Int} (h : -9223372036854775808 ≤ D ∧ D < 9223372036854775808) : IntKind.i64.wrap (.ofNat (numD D)) = D := by
  rw [← (wrap_numD D).1]
  unfold IntKind.wrap
  simp only [show IntKind.i64.bits = 64 from rfl, show IntKind.u64.bits = 64 from rfl, show IntKind.u64.signed = false from rfl, show IntKind.i64.signed = true from rfl, Bool.false_and, Bool.true_and, Bool.false_eq_true, if_false, decide_eq_true_eq]
  split <;> omega
theorem dec_enc {N D : Int} {cs : List Ws} (hm : mayN N cs) (hok : GrpOk N cs) : dec (encG N D cs) = some (numN N, numD D, cs) := by
  have hp := dec_put (N := numN N) (D := numD D) (cs := cs) (by have := hok.hN; unfold numN; omega) (wrap_numD D).2 (by have := hok.hcs; omega) (fun c hc => ⟨by have := hok.hc c hc; omega, fun w hw => by have := (hm.2.2.2.2 c hc).2.2 w hw; omega⟩)
  have e : ((numN N : Nat) : Int) = N := by have := hm.1; unfold numN; omega
  rw [e, if_pos hm] at hp
  exact hp
/-- What is laid for the walk. -/
structure Args (h : AHeap) (vb cv : Value) (N D : Int) (cs : List Ws) (b : List UInt8) : Prop where
  hg : SlG h.next h cv cs
  hb : Sl h.next h vb (bys b)
  hv : varsOk h 0 varL = true
  h3 : 3 ≤ h.next
  hN : -9223372036854775808 ≤ N ∧ N < 9223372036854775808
  hD : -9223372036854775808 ≤ D ∧ D < 9223372036854775808
  hcs : cs.length < 9223372036854775807
  hcl : ∀ c ∈ cs, c.length < 9223372036854775807
  hw : ∀ c ∈ cs, ∀ w ∈ c, w.length ≤ 1048576
  hbl : b.length < 9223372036854775807
theorem eWs_small : ∀ (c : Ws), (∀ w ∈ c, w.length ≤ 1048576) → (eWs c).length ≤ c.length * 1048580
  | [], _ => by simp [eWs]
  | w :: c, h => by
    have h1 := eWs_small c fun x hx => h x (List.mem_cons_of_mem _ hx)
    have h2 := h w List.mem_cons_self
    rw [eWs_cons]
    simp only [List.length_append, eW, bts_len, List.length_cons]
    omega
theorem eCs_small : ∀ (cs : List Ws), (∀ c ∈ cs, c.length ≤ 60) → (∀ c ∈ cs, ∀ w ∈ c, w.length ≤ 1048576) → (eCs cs).length ≤ cs.length * 62914808
  | [], _, _ => by simp [eCs]
  | c :: cs, h0, h => by
    have h1 := eCs_small cs (fun x hx => h0 x (List.mem_cons_of_mem _ hx)) fun x hx => h x (List.mem_cons_of_mem _ hx)
    have h2 := h0 c List.mem_cons_self
    have h4 := eWs_small c (h c List.mem_cons_self)
    rw [eCs_cons]
    simp only [List.length_append, eC, bts_len, List.length_cons]
    omega
theorem cLts {cs : List Ws} (hcl : ∀ c ∈ cs, c.length < 9223372036854775807) (hw : ∀ c ∈ cs, ∀ w ∈ c, w.length ≤ 1048576) : ∀ c ∈ cs, cLt c := fun c hc => ⟨by have := hcl c hc; omega, fun w hx => by have := hw c hc w hx; omega⟩
theorem numN_lt {N : Int} (h : N < 9223372036854775808) : numN N < 18446744073709551616 := by unfold numN; omega

theorem sc_A1 {h : AHeap} {vb cv : Value} {N D : Int} {cs : List Ws} {b : List UInt8} (a : Args h vb cv N D cs b) (hm : mayN N cs) (hi : (dec b).isSome = true) : SC PP 4 [.agg #[.int .i64 N, .int .i64 D, cv], vb] h (fun r _ => r = .ret (.bool true)) := by
  have kH : Keep h.next h (h.row [.int .i64 N, .int .i64 D, cv]) := row_keep h _
  have gH := Grp.row h N D cv
  have hgH : SlG (h.row [.int .i64 N, .int .i64 D, cv]).next (h.row [.int .i64 N, .int .i64 D, cv]) cv cs := a.hg.keep kH kH.next
  have hvH : varsOk (h.row [.int .i64 N, .int .i64 D, cv]) 0 varL = true := vars_keep kH a.h3 a.hv
  have h3H : 3 ≤ (h.row [.int .i64 N, .int .i64 D, cv]).next := Nat.le_trans a.h3 kH.next
  have hbH : Sl (h.row [.int .i64 N, .int .i64 D, cv]).next (h.row [.int .i64 N, .int .i64 D, cv]) vb (bys b) := a.hb.keep kH kH.next
  have hlb : ∀ h', lenS 5 vb h' = some (.int .i64 (.ofNat b.length)) := fun h' => by rw [a.hb.len (h' := h') 5, bys_length]
  have hNN := a.hN
  have hld : ∀ h', Keep (h.row [.int .i64 N, .int .i64 D, cv]).next (h.row [.int .i64 N, .int .i64 D, cv]) h' → E.loadVar h' 42 h.next 0 = some (.agg #[.int .i64 N, .int .i64 D, cv]) := fun h' k => (gH.keep (k.get _ gH.lt) k.next).loadAll
  have hld3 : ∀ h', Keep (h.row [.int .i64 N, .int .i64 D, cv]).next (h.row [.int .i64 N, .int .i64 D, cv]) h' → E.loadVar h' 3 h.next 0 = some (.int .i64 N) := fun h' k => (gH.keep (k.get _ gH.lt) k.next).load0
  apply orCall_sound E_ok mixed (scAA1 vb cv N D cs.length b.length h.next (h.row [.int .i64 N, .int .i64 D, cv]) (cs.length ≤ 60 → ∀ c ∈ cs, c.length ≤ 60)
    (fun vc h1 => Sl h1.next h1 vc (bys (encG N D cs)) ∧ Keep (h.row [.int .i64 N, .int .i64 D, cv]).next (h.row [.int .i64 N, .int .i64 D, cv]) h1)
    (fun vc x h2 => E.storeVar (h2.row zr) 42 h2.next 0 x.1 = some x.2 ∧ XF (dec (encG N D cs)) h2.next x ∧ Sl x.2.next x.2 vc (bys (encG N D cs)) ∧ Keep (h.row [.int .i64 N, .int .i64 D, cv]).next (h.row [.int .i64 N, .int .i64 D, cv]) x.2)
    (fun vc x q e h3 => XF (dec (encG N D cs)) q x ∧ Sl h3.next h3 vc (bys (encG N D cs)) ∧ Sl h3.next h3 e (bys (encG N D cs)) ∧ Keep x.2.next x.2 h3 ∧ Keep (h.row [.int .i64 N, .int .i64 D, cv]).next (h.row [.int .i64 N, .int .i64 D, cv]) x.2)
    (fun x q h4 => XF (dec (encG N D cs)) q x ∧ Keep x.2.next x.2 h4 ∧ Keep (h.row [.int .i64 N, .int .i64 D, cv]).next (h.row [.int .i64 N, .int .i64 D, cv]) x.2) (fun x q h5 => XF (dec (encG N D cs)) q x ∧ Keep x.2.next x.2 h5 ∧ Keep (h.row [.int .i64 N, .int .i64 D, cv]).next (h.row [.int .i64 N, .int .i64 D, cv]) x.2) (fun h6 => Keep (h.row [.int .i64 N, .int .i64 D, cv]).next (h.row [.int .i64 N, .int .i64 D, cv]) h6)
    (fun y h7 => E.storeVar (h7.row zr) 42 h7.next 0 y.1 = some y.2 ∧ XF (dec b) h7.next y ∧ Keep (h.row [.int .i64 N, .int .i64 D, cv]).next (h.row [.int .i64 N, .int .i64 D, cv]) y.2) (fun y q z h8 => E.storeVar (h8.row zr) 47 h8.next 0 z.1 = some z.2 ∧ XF (dec b) h8.next z ∧ XF (dec b) q y ∧ Keep y.2.next y.2 z.2 ∧ Keep (h.row [.int .i64 N, .int .i64 D, cv]).next (h.row [.int .i64 N, .int .i64 D, cv]) y.2) (fun h9 => varsOk h9 0 varL = true))
  rw [sc_evA1]
  refine ⟨fun rd => guard_out hvH gH hgH a.hcl, ?_, fun _ _ _ => rfl⟩
  rintro _ h0 ⟨rfl, hPG⟩
  refine ⟨gH.load2, hgH.len 23, fun _ => awP hvH fun _ => rfl, fun hn60 => ⟨hlb _, fun _ => awP hvH fun _ => rfl, fun hm5 => ⟨hld _ (Keep.refl _ _), ?_, ?_⟩⟩⟩
  all_goals have hcs60 : cs.length ≤ 60 := Nat.le_of_not_lt fun hh => of_decide_eq_false hn60 (Int.ofNat_lt.2 hh)
  all_goals have hok : GrpOk N cs := ⟨hNN.2, a.hcs, a.hcl, by have := eCs_small cs (hPG hcs60) a.hw; omega⟩
  · refine (enc_ok hgH hok).mono ?_
    rintro x h1 ⟨v, rfl, o, k⟩
    exact ⟨v, rfl, o.sl, k⟩
  have hb5 : b.length < 4294967296 := by
    have : ¬ 5000 < b.length := fun hh => of_decide_eq_false hm5 (Int.ofNat_lt.2 hh)
    omega
  have hrest := fun h6 (k6 : Keep (h.row [.int .i64 N, .int .i64 D, cv]).next (h.row [.int .i64 N, .int .i64 D, cv]) h6) => rest_true (Q := fun r _ => r = .ret (.bool true)) (fun _ => rfl) k6 hbH hb5 hvH h3H hi
  rintro vc h1 ⟨s1, k1⟩
  refine ⟨(dec_ok s1 (by rw [encG_len]; exact hok.hlen)).mono ?_, ?_⟩
  · intro y h2 d
    obtain ⟨x, e, e1, t, k⟩ := XF.mk42 d
    exact ⟨x, by rw [e]; simp [dec_enc hm hok], e1, t, s1.keep k k.next, k1.trans (k.mono k1.next)⟩
  rintro x h2 ⟨e1, t, s2, k2⟩
  refine ⟨e1, rfl, hld _ k2, (encr_ok (hgH.keep k2 k2.next) hok).mono ?_, ?_⟩
  · rintro y h3 ⟨e, rfl, o, k⟩
    exact ⟨e, rfl, t, s2.keep k k.next, o.sl, k, k2⟩
  rintro e h3 ⟨_, s3, se, k3, _⟩
  refine ⟨(equal_ok s3 se).mono ?_, ?_⟩
  · rintro y h4 ⟨rfl, rfl⟩
    exact ⟨(), rfl, t, k3, k2⟩
  rintro _ h4 ⟨_, k4, _⟩
  have kH4 : Keep (h.row [.int .i64 N, .int .i64 D, cv]).next (h.row [.int .i64 N, .int .i64 D, cv]) h4 := k2.trans (k4.mono k2.next)
  refine ⟨hld _ kH4, (may_ok (hgH.keep kH4 kH4.next) a.hcs a.hcl).mono ?_, ?_⟩
  · rintro y h5 ⟨rfl, k⟩
    exact ⟨(), by rw [decide_eq_true hm], t, k4.trans (k.mono k4.next), k2⟩
  rintro _ h5 ⟨_, k5, _⟩
  have kH5 : Keep (h.row [.int .i64 N, .int .i64 D, cv]).next (h.row [.int .i64 N, .int .i64 D, cv]) h5 := k2.trans (k5.mono k2.next)
  refine ⟨hld3 _ kH5, fun _ => ?_, fun hc => absurd hm.1 (of_decide_eq_false hc)⟩
  refine ⟨(t.load k5).1, hld _ kH5, ?_, fun _ h6 k6 => hrest h6 k6⟩
  have hde := dec_enc (D := D) hm hok
  obtain ⟨cw, ex, gw, sw⟩ := t.ex
  rw [hde] at ex sw
  have hn : nOf (some (numN N, numD D, cs)) = N := by show Int.ofNat (numN N) = N; have := hm.1; unfold numN; simp only [Int.ofNat_eq_natCast]; omega
  have hd : dOf (some (numN N, numD D, cs)) = D := wrap_i64_u64 a.hD
  rw [hn, hd] at ex
  rw [ex]
  refine (sameG_ok (sw.keep k5 k5.next) (hgH.keep kH5 kH5.next) a.hcs a.hcl).mono ?_
  rintro y h6 ⟨rfl, k6⟩
  exact ⟨(), rfl, kH5.trans (k6.mono kH5.next)⟩
theorem sc_A0 {h : AHeap} {vb cv : Value} {N D : Int} {cs : List Ws} {b : List UInt8} (a : Args h vb cv N D cs b) (hm : mayN N cs) (hi : (dec b).isSome = false) : SC PP 4 [.agg #[.int .i64 N, .int .i64 D, cv], vb] h (fun r _ => r = .ret (.bool true)) := by
  have kH : Keep h.next h (h.row [.int .i64 N, .int .i64 D, cv]) := row_keep h _
  have gH := Grp.row h N D cv
  have hgH : SlG (h.row [.int .i64 N, .int .i64 D, cv]).next (h.row [.int .i64 N, .int .i64 D, cv]) cv cs := a.hg.keep kH kH.next
  have hvH : varsOk (h.row [.int .i64 N, .int .i64 D, cv]) 0 varL = true := vars_keep kH a.h3 a.hv
  have h3H : 3 ≤ (h.row [.int .i64 N, .int .i64 D, cv]).next := Nat.le_trans a.h3 kH.next
  have hbH : Sl (h.row [.int .i64 N, .int .i64 D, cv]).next (h.row [.int .i64 N, .int .i64 D, cv]) vb (bys b) := a.hb.keep kH kH.next
  have hlb : ∀ h', lenS 5 vb h' = some (.int .i64 (.ofNat b.length)) := fun h' => by rw [a.hb.len (h' := h') 5, bys_length]
  have hNN := a.hN
  have hld : ∀ h', Keep (h.row [.int .i64 N, .int .i64 D, cv]).next (h.row [.int .i64 N, .int .i64 D, cv]) h' → E.loadVar h' 42 h.next 0 = some (.agg #[.int .i64 N, .int .i64 D, cv]) := fun h' k => (gH.keep (k.get _ gH.lt) k.next).loadAll
  have hld3 : ∀ h', Keep (h.row [.int .i64 N, .int .i64 D, cv]).next (h.row [.int .i64 N, .int .i64 D, cv]) h' → E.loadVar h' 3 h.next 0 = some (.int .i64 N) := fun h' k => (gH.keep (k.get _ gH.lt) k.next).load0
  apply orCall_sound E_ok mixed (scAA0 vb cv N D cs.length b.length h.next (h.row [.int .i64 N, .int .i64 D, cv]) (cs.length ≤ 60 → ∀ c ∈ cs, c.length ≤ 60)
    (fun vc h1 => Sl h1.next h1 vc (bys (encG N D cs)) ∧ Keep (h.row [.int .i64 N, .int .i64 D, cv]).next (h.row [.int .i64 N, .int .i64 D, cv]) h1)
    (fun vc x h2 => E.storeVar (h2.row zr) 42 h2.next 0 x.1 = some x.2 ∧ XF (dec (encG N D cs)) h2.next x ∧ Sl x.2.next x.2 vc (bys (encG N D cs)) ∧ Keep (h.row [.int .i64 N, .int .i64 D, cv]).next (h.row [.int .i64 N, .int .i64 D, cv]) x.2)
    (fun vc x q e h3 => XF (dec (encG N D cs)) q x ∧ Sl h3.next h3 vc (bys (encG N D cs)) ∧ Sl h3.next h3 e (bys (encG N D cs)) ∧ Keep x.2.next x.2 h3 ∧ Keep (h.row [.int .i64 N, .int .i64 D, cv]).next (h.row [.int .i64 N, .int .i64 D, cv]) x.2)
    (fun x q h4 => XF (dec (encG N D cs)) q x ∧ Keep x.2.next x.2 h4 ∧ Keep (h.row [.int .i64 N, .int .i64 D, cv]).next (h.row [.int .i64 N, .int .i64 D, cv]) x.2) (fun x q h5 => XF (dec (encG N D cs)) q x ∧ Keep x.2.next x.2 h5 ∧ Keep (h.row [.int .i64 N, .int .i64 D, cv]).next (h.row [.int .i64 N, .int .i64 D, cv]) x.2) (fun h6 => Keep (h.row [.int .i64 N, .int .i64 D, cv]).next (h.row [.int .i64 N, .int .i64 D, cv]) h6)
    (fun y h7 => E.storeVar (h7.row zr) 42 h7.next 0 y.1 = some y.2 ∧ XF (dec b) h7.next y ∧ Keep (h.row [.int .i64 N, .int .i64 D, cv]).next (h.row [.int .i64 N, .int .i64 D, cv]) y.2) (fun y q z h8 => E.storeVar (h8.row zr) 47 h8.next 0 z.1 = some z.2 ∧ XF (dec b) h8.next z ∧ XF (dec b) q y ∧ Keep y.2.next y.2 z.2 ∧ Keep (h.row [.int .i64 N, .int .i64 D, cv]).next (h.row [.int .i64 N, .int .i64 D, cv]) y.2) (fun h9 => varsOk h9 0 varL = true))
  rw [sc_evA0]
  refine ⟨fun rd => guard_out hvH gH hgH a.hcl, ?_, fun _ _ _ => rfl⟩
  rintro _ h0 ⟨rfl, hPG⟩
  refine ⟨gH.load2, hgH.len 23, fun _ => awP hvH fun _ => rfl, fun hn60 => ⟨hlb _, fun _ => awP hvH fun _ => rfl, fun hm5 => ⟨hld _ (Keep.refl _ _), ?_, ?_⟩⟩⟩
  all_goals have hcs60 : cs.length ≤ 60 := Nat.le_of_not_lt fun hh => of_decide_eq_false hn60 (Int.ofNat_lt.2 hh)
  all_goals have hok : GrpOk N cs := ⟨hNN.2, a.hcs, a.hcl, by have := eCs_small cs (hPG hcs60) a.hw; omega⟩
  · refine (enc_ok hgH hok).mono ?_
    rintro x h1 ⟨v, rfl, o, k⟩
    exact ⟨v, rfl, o.sl, k⟩
  have hb5 : b.length < 4294967296 := by
    have : ¬ 5000 < b.length := fun hh => of_decide_eq_false hm5 (Int.ofNat_lt.2 hh)
    omega
  have hrest := fun h6 (k6 : Keep (h.row [.int .i64 N, .int .i64 D, cv]).next (h.row [.int .i64 N, .int .i64 D, cv]) h6) => rest_false (Q := fun r _ => r = .ret (.bool true)) (fun _ => rfl) k6 hbH hb5 hvH h3H hi
  rintro vc h1 ⟨s1, k1⟩
  refine ⟨(dec_ok s1 (by rw [encG_len]; exact hok.hlen)).mono ?_, ?_⟩
  · intro y h2 d
    obtain ⟨x, e, e1, t, k⟩ := XF.mk42 d
    exact ⟨x, by rw [e]; simp [dec_enc hm hok], e1, t, s1.keep k k.next, k1.trans (k.mono k1.next)⟩
  rintro x h2 ⟨e1, t, s2, k2⟩
  refine ⟨e1, rfl, hld _ k2, (encr_ok (hgH.keep k2 k2.next) hok).mono ?_, ?_⟩
  · rintro y h3 ⟨e, rfl, o, k⟩
    exact ⟨e, rfl, t, s2.keep k k.next, o.sl, k, k2⟩
  rintro e h3 ⟨_, s3, se, k3, _⟩
  refine ⟨(equal_ok s3 se).mono ?_, ?_⟩
  · rintro y h4 ⟨rfl, rfl⟩
    exact ⟨(), rfl, t, k3, k2⟩
  rintro _ h4 ⟨_, k4, _⟩
  have kH4 : Keep (h.row [.int .i64 N, .int .i64 D, cv]).next (h.row [.int .i64 N, .int .i64 D, cv]) h4 := k2.trans (k4.mono k2.next)
  refine ⟨hld _ kH4, (may_ok (hgH.keep kH4 kH4.next) a.hcs a.hcl).mono ?_, ?_⟩
  · rintro y h5 ⟨rfl, k⟩
    exact ⟨(), by rw [decide_eq_true hm], t, k4.trans (k.mono k4.next), k2⟩
  rintro _ h5 ⟨_, k5, _⟩
  have kH5 : Keep (h.row [.int .i64 N, .int .i64 D, cv]).next (h.row [.int .i64 N, .int .i64 D, cv]) h5 := k2.trans (k5.mono k2.next)
  refine ⟨hld3 _ kH5, fun _ => ?_, fun hc => absurd hm.1 (of_decide_eq_false hc)⟩
  refine ⟨(t.load k5).1, hld _ kH5, ?_, fun _ h6 k6 => hrest h6 k6⟩
  have hde := dec_enc (D := D) hm hok
  obtain ⟨cw, ex, gw, sw⟩ := t.ex
  rw [hde] at ex sw
  have hn : nOf (some (numN N, numD D, cs)) = N := by show Int.ofNat (numN N) = N; have := hm.1; unfold numN; simp only [Int.ofNat_eq_natCast]; omega
  have hd : dOf (some (numN N, numD D, cs)) = D := wrap_i64_u64 a.hD
  rw [hn, hd] at ex
  rw [ex]
  refine (sameG_ok (sw.keep k5 k5.next) (hgH.keep kH5 kH5.next) a.hcs a.hcl).mono ?_
  rintro y h6 ⟨rfl, k6⟩
  exact ⟨(), rfl, kH5.trans (k6.mono kH5.next)⟩
theorem sc_B1 {h : AHeap} {vb cv : Value} {N D : Int} {cs : List Ws} {b : List UInt8} (a : Args h vb cv N D cs b) (hm : ¬ mayN N cs) (ho : dec (encG N D cs) = none) (hi : (dec b).isSome = true) : SC PP 4 [.agg #[.int .i64 N, .int .i64 D, cv], vb] h (fun r _ => r = .ret (.bool true)) := by
  have kH : Keep h.next h (h.row [.int .i64 N, .int .i64 D, cv]) := row_keep h _
  have gH := Grp.row h N D cv
  have hgH : SlG (h.row [.int .i64 N, .int .i64 D, cv]).next (h.row [.int .i64 N, .int .i64 D, cv]) cv cs := a.hg.keep kH kH.next
  have hvH : varsOk (h.row [.int .i64 N, .int .i64 D, cv]) 0 varL = true := vars_keep kH a.h3 a.hv
  have h3H : 3 ≤ (h.row [.int .i64 N, .int .i64 D, cv]).next := Nat.le_trans a.h3 kH.next
  have hbH : Sl (h.row [.int .i64 N, .int .i64 D, cv]).next (h.row [.int .i64 N, .int .i64 D, cv]) vb (bys b) := a.hb.keep kH kH.next
  have hlb : ∀ h', lenS 5 vb h' = some (.int .i64 (.ofNat b.length)) := fun h' => by rw [a.hb.len (h' := h') 5, bys_length]
  have hNN := a.hN
  have hld : ∀ h', Keep (h.row [.int .i64 N, .int .i64 D, cv]).next (h.row [.int .i64 N, .int .i64 D, cv]) h' → E.loadVar h' 42 h.next 0 = some (.agg #[.int .i64 N, .int .i64 D, cv]) := fun h' k => (gH.keep (k.get _ gH.lt) k.next).loadAll
  have hld3 : ∀ h', Keep (h.row [.int .i64 N, .int .i64 D, cv]).next (h.row [.int .i64 N, .int .i64 D, cv]) h' → E.loadVar h' 3 h.next 0 = some (.int .i64 N) := fun h' k => (gH.keep (k.get _ gH.lt) k.next).load0
  apply orCall_sound E_ok mixed (scAB1 vb cv N D cs.length b.length h.next (h.row [.int .i64 N, .int .i64 D, cv]) (cs.length ≤ 60 → ∀ c ∈ cs, c.length ≤ 60)
    (fun vc h1 => Sl h1.next h1 vc (bys (encG N D cs)) ∧ Keep (h.row [.int .i64 N, .int .i64 D, cv]).next (h.row [.int .i64 N, .int .i64 D, cv]) h1)
    (fun vc x h2 => E.storeVar (h2.row zr) 42 h2.next 0 x.1 = some x.2 ∧ XF (dec (encG N D cs)) h2.next x ∧ Sl x.2.next x.2 vc (bys (encG N D cs)) ∧ Keep (h.row [.int .i64 N, .int .i64 D, cv]).next (h.row [.int .i64 N, .int .i64 D, cv]) x.2)
    (fun vc x q e h3 => XF (dec (encG N D cs)) q x ∧ Sl h3.next h3 vc (bys (encG N D cs)) ∧ Sl h3.next h3 e (bys (encG N D cs)) ∧ Keep x.2.next x.2 h3 ∧ Keep (h.row [.int .i64 N, .int .i64 D, cv]).next (h.row [.int .i64 N, .int .i64 D, cv]) x.2)
    (fun x q h4 => XF (dec (encG N D cs)) q x ∧ Keep x.2.next x.2 h4 ∧ Keep (h.row [.int .i64 N, .int .i64 D, cv]).next (h.row [.int .i64 N, .int .i64 D, cv]) x.2) (fun x q h5 => XF (dec (encG N D cs)) q x ∧ Keep x.2.next x.2 h5 ∧ Keep (h.row [.int .i64 N, .int .i64 D, cv]).next (h.row [.int .i64 N, .int .i64 D, cv]) x.2) (fun h6 => Keep (h.row [.int .i64 N, .int .i64 D, cv]).next (h.row [.int .i64 N, .int .i64 D, cv]) h6)
    (fun y h7 => E.storeVar (h7.row zr) 42 h7.next 0 y.1 = some y.2 ∧ XF (dec b) h7.next y ∧ Keep (h.row [.int .i64 N, .int .i64 D, cv]).next (h.row [.int .i64 N, .int .i64 D, cv]) y.2) (fun y q z h8 => E.storeVar (h8.row zr) 47 h8.next 0 z.1 = some z.2 ∧ XF (dec b) h8.next z ∧ XF (dec b) q y ∧ Keep y.2.next y.2 z.2 ∧ Keep (h.row [.int .i64 N, .int .i64 D, cv]).next (h.row [.int .i64 N, .int .i64 D, cv]) y.2) (fun h9 => varsOk h9 0 varL = true))
  rw [sc_evB1]
  refine ⟨fun rd => guard_out hvH gH hgH a.hcl, ?_, fun _ _ _ => rfl⟩
  rintro _ h0 ⟨rfl, hPG⟩
  refine ⟨gH.load2, hgH.len 23, fun _ => awP hvH fun _ => rfl, fun hn60 => ⟨hlb _, fun _ => awP hvH fun _ => rfl, fun hm5 => ⟨hld _ (Keep.refl _ _), ?_, ?_⟩⟩⟩
  all_goals have hcs60 : cs.length ≤ 60 := Nat.le_of_not_lt fun hh => of_decide_eq_false hn60 (Int.ofNat_lt.2 hh)
  all_goals have hok : GrpOk N cs := ⟨hNN.2, a.hcs, a.hcl, by have := eCs_small cs (hPG hcs60) a.hw; omega⟩
  · refine (enc_ok hgH hok).mono ?_
    rintro x h1 ⟨v, rfl, o, k⟩
    exact ⟨v, rfl, o.sl, k⟩
  have hb5 : b.length < 4294967296 := by
    have : ¬ 5000 < b.length := fun hh => of_decide_eq_false hm5 (Int.ofNat_lt.2 hh)
    omega
  have hrest := fun h6 (k6 : Keep (h.row [.int .i64 N, .int .i64 D, cv]).next (h.row [.int .i64 N, .int .i64 D, cv]) h6) => rest_true (Q := fun r _ => r = .ret (.bool true)) (fun _ => rfl) k6 hbH hb5 hvH h3H hi
  rintro vc h1 ⟨s1, k1⟩
  refine ⟨(dec_ok s1 (by rw [encG_len]; exact hok.hlen)).mono ?_, ?_⟩
  · intro y h2 d
    obtain ⟨x, e, e1, t, k⟩ := XF.mk42 d
    exact ⟨x, by rw [e]; simp [ho], e1, t, s1.keep k k.next, k1.trans (k.mono k1.next)⟩
  rintro x h2 ⟨e1, t, s2, k2⟩
  refine ⟨e1, rfl, hld _ k2, (encr_ok (hgH.keep k2 k2.next) hok).mono ?_, ?_⟩
  · rintro y h3 ⟨e, rfl, o, k⟩
    exact ⟨e, rfl, t, s2.keep k k.next, o.sl, k, k2⟩
  rintro e h3 ⟨_, s3, se, k3, _⟩
  refine ⟨(equal_ok s3 se).mono ?_, ?_⟩
  · rintro y h4 ⟨rfl, rfl⟩
    exact ⟨(), rfl, t, k3, k2⟩
  rintro _ h4 ⟨_, k4, _⟩
  have kH4 : Keep (h.row [.int .i64 N, .int .i64 D, cv]).next (h.row [.int .i64 N, .int .i64 D, cv]) h4 := k2.trans (k4.mono k2.next)
  refine ⟨hld _ kH4, (may_ok (hgH.keep kH4 kH4.next) a.hcs a.hcl).mono ?_, ?_⟩
  · rintro y h5 ⟨rfl, k⟩
    exact ⟨(), by rw [decide_eq_false hm], t, k4.trans (k.mono k4.next), k2⟩
  rintro _ h5 ⟨_, k5, _⟩
  have kH5 : Keep (h.row [.int .i64 N, .int .i64 D, cv]).next (h.row [.int .i64 N, .int .i64 D, cv]) h5 := k2.trans (k5.mono k2.next)
  exact hrest h5 kH5
theorem sc_B0 {h : AHeap} {vb cv : Value} {N D : Int} {cs : List Ws} {b : List UInt8} (a : Args h vb cv N D cs b) (hm : ¬ mayN N cs) (ho : dec (encG N D cs) = none) (hi : (dec b).isSome = false) : SC PP 4 [.agg #[.int .i64 N, .int .i64 D, cv], vb] h (fun r _ => r = .ret (.bool true)) := by
  have kH : Keep h.next h (h.row [.int .i64 N, .int .i64 D, cv]) := row_keep h _
  have gH := Grp.row h N D cv
  have hgH : SlG (h.row [.int .i64 N, .int .i64 D, cv]).next (h.row [.int .i64 N, .int .i64 D, cv]) cv cs := a.hg.keep kH kH.next
  have hvH : varsOk (h.row [.int .i64 N, .int .i64 D, cv]) 0 varL = true := vars_keep kH a.h3 a.hv
  have h3H : 3 ≤ (h.row [.int .i64 N, .int .i64 D, cv]).next := Nat.le_trans a.h3 kH.next
  have hbH : Sl (h.row [.int .i64 N, .int .i64 D, cv]).next (h.row [.int .i64 N, .int .i64 D, cv]) vb (bys b) := a.hb.keep kH kH.next
  have hlb : ∀ h', lenS 5 vb h' = some (.int .i64 (.ofNat b.length)) := fun h' => by rw [a.hb.len (h' := h') 5, bys_length]
  have hNN := a.hN
  have hld : ∀ h', Keep (h.row [.int .i64 N, .int .i64 D, cv]).next (h.row [.int .i64 N, .int .i64 D, cv]) h' → E.loadVar h' 42 h.next 0 = some (.agg #[.int .i64 N, .int .i64 D, cv]) := fun h' k => (gH.keep (k.get _ gH.lt) k.next).loadAll
  have hld3 : ∀ h', Keep (h.row [.int .i64 N, .int .i64 D, cv]).next (h.row [.int .i64 N, .int .i64 D, cv]) h' → E.loadVar h' 3 h.next 0 = some (.int .i64 N) := fun h' k => (gH.keep (k.get _ gH.lt) k.next).load0
  apply orCall_sound E_ok mixed (scAB0 vb cv N D cs.length b.length h.next (h.row [.int .i64 N, .int .i64 D, cv]) (cs.length ≤ 60 → ∀ c ∈ cs, c.length ≤ 60)
    (fun vc h1 => Sl h1.next h1 vc (bys (encG N D cs)) ∧ Keep (h.row [.int .i64 N, .int .i64 D, cv]).next (h.row [.int .i64 N, .int .i64 D, cv]) h1)
    (fun vc x h2 => E.storeVar (h2.row zr) 42 h2.next 0 x.1 = some x.2 ∧ XF (dec (encG N D cs)) h2.next x ∧ Sl x.2.next x.2 vc (bys (encG N D cs)) ∧ Keep (h.row [.int .i64 N, .int .i64 D, cv]).next (h.row [.int .i64 N, .int .i64 D, cv]) x.2)
    (fun vc x q e h3 => XF (dec (encG N D cs)) q x ∧ Sl h3.next h3 vc (bys (encG N D cs)) ∧ Sl h3.next h3 e (bys (encG N D cs)) ∧ Keep x.2.next x.2 h3 ∧ Keep (h.row [.int .i64 N, .int .i64 D, cv]).next (h.row [.int .i64 N, .int .i64 D, cv]) x.2)
    (fun x q h4 => XF (dec (encG N D cs)) q x ∧ Keep x.2.next x.2 h4 ∧ Keep (h.row [.int .i64 N, .int .i64 D, cv]).next (h.row [.int .i64 N, .int .i64 D, cv]) x.2) (fun x q h5 => XF (dec (encG N D cs)) q x ∧ Keep x.2.next x.2 h5 ∧ Keep (h.row [.int .i64 N, .int .i64 D, cv]).next (h.row [.int .i64 N, .int .i64 D, cv]) x.2) (fun h6 => Keep (h.row [.int .i64 N, .int .i64 D, cv]).next (h.row [.int .i64 N, .int .i64 D, cv]) h6)
    (fun y h7 => E.storeVar (h7.row zr) 42 h7.next 0 y.1 = some y.2 ∧ XF (dec b) h7.next y ∧ Keep (h.row [.int .i64 N, .int .i64 D, cv]).next (h.row [.int .i64 N, .int .i64 D, cv]) y.2) (fun y q z h8 => E.storeVar (h8.row zr) 47 h8.next 0 z.1 = some z.2 ∧ XF (dec b) h8.next z ∧ XF (dec b) q y ∧ Keep y.2.next y.2 z.2 ∧ Keep (h.row [.int .i64 N, .int .i64 D, cv]).next (h.row [.int .i64 N, .int .i64 D, cv]) y.2) (fun h9 => varsOk h9 0 varL = true))
  rw [sc_evB0]
  refine ⟨fun rd => guard_out hvH gH hgH a.hcl, ?_, fun _ _ _ => rfl⟩
  rintro _ h0 ⟨rfl, hPG⟩
  refine ⟨gH.load2, hgH.len 23, fun _ => awP hvH fun _ => rfl, fun hn60 => ⟨hlb _, fun _ => awP hvH fun _ => rfl, fun hm5 => ⟨hld _ (Keep.refl _ _), ?_, ?_⟩⟩⟩
  all_goals have hcs60 : cs.length ≤ 60 := Nat.le_of_not_lt fun hh => of_decide_eq_false hn60 (Int.ofNat_lt.2 hh)
  all_goals have hok : GrpOk N cs := ⟨hNN.2, a.hcs, a.hcl, by have := eCs_small cs (hPG hcs60) a.hw; omega⟩
  · refine (enc_ok hgH hok).mono ?_
    rintro x h1 ⟨v, rfl, o, k⟩
    exact ⟨v, rfl, o.sl, k⟩
  have hb5 : b.length < 4294967296 := by
    have : ¬ 5000 < b.length := fun hh => of_decide_eq_false hm5 (Int.ofNat_lt.2 hh)
    omega
  have hrest := fun h6 (k6 : Keep (h.row [.int .i64 N, .int .i64 D, cv]).next (h.row [.int .i64 N, .int .i64 D, cv]) h6) => rest_false (Q := fun r _ => r = .ret (.bool true)) (fun _ => rfl) k6 hbH hb5 hvH h3H hi
  rintro vc h1 ⟨s1, k1⟩
  refine ⟨(dec_ok s1 (by rw [encG_len]; exact hok.hlen)).mono ?_, ?_⟩
  · intro y h2 d
    obtain ⟨x, e, e1, t, k⟩ := XF.mk42 d
    exact ⟨x, by rw [e]; simp [ho], e1, t, s1.keep k k.next, k1.trans (k.mono k1.next)⟩
  rintro x h2 ⟨e1, t, s2, k2⟩
  refine ⟨e1, rfl, hld _ k2, (encr_ok (hgH.keep k2 k2.next) hok).mono ?_, ?_⟩
  · rintro y h3 ⟨e, rfl, o, k⟩
    exact ⟨e, rfl, t, s2.keep k k.next, o.sl, k, k2⟩
  rintro e h3 ⟨_, s3, se, k3, _⟩
  refine ⟨(equal_ok s3 se).mono ?_, ?_⟩
  · rintro y h4 ⟨rfl, rfl⟩
    exact ⟨(), rfl, t, k3, k2⟩
  rintro _ h4 ⟨_, k4, _⟩
  have kH4 : Keep (h.row [.int .i64 N, .int .i64 D, cv]).next (h.row [.int .i64 N, .int .i64 D, cv]) h4 := k2.trans (k4.mono k2.next)
  refine ⟨hld _ kH4, (may_ok (hgH.keep kH4 kH4.next) a.hcs a.hcl).mono ?_, ?_⟩
  · rintro y h5 ⟨rfl, k⟩
    exact ⟨(), by rw [decide_eq_false hm], t, k4.trans (k.mono k4.next), k2⟩
  rintro _ h5 ⟨_, k5, _⟩
  have kH5 : Keep (h.row [.int .i64 N, .int .i64 D, cv]).next (h.row [.int .i64 N, .int .i64 D, cv]) h5 := k2.trans (k5.mono k2.next)
  exact hrest h5 kH5
theorem sc_C1 {h : AHeap} {vb cv : Value} {N D : Int} {cs : List Ws} {b : List UInt8} (a : Args h vb cv N D cs b) (hm : ¬ mayN N cs) (gg : G3) (ho : dec (encG N D cs) = some gg) (hi : (dec b).isSome = true) : SC PP 4 [.agg #[.int .i64 N, .int .i64 D, cv], vb] h (fun r _ => r = .ret (.bool true)) := by
  have kH : Keep h.next h (h.row [.int .i64 N, .int .i64 D, cv]) := row_keep h _
  have gH := Grp.row h N D cv
  have hgH : SlG (h.row [.int .i64 N, .int .i64 D, cv]).next (h.row [.int .i64 N, .int .i64 D, cv]) cv cs := a.hg.keep kH kH.next
  have hvH : varsOk (h.row [.int .i64 N, .int .i64 D, cv]) 0 varL = true := vars_keep kH a.h3 a.hv
  have h3H : 3 ≤ (h.row [.int .i64 N, .int .i64 D, cv]).next := Nat.le_trans a.h3 kH.next
  have hbH : Sl (h.row [.int .i64 N, .int .i64 D, cv]).next (h.row [.int .i64 N, .int .i64 D, cv]) vb (bys b) := a.hb.keep kH kH.next
  have hlb : ∀ h', lenS 5 vb h' = some (.int .i64 (.ofNat b.length)) := fun h' => by rw [a.hb.len (h' := h') 5, bys_length]
  have hNN := a.hN
  have hld : ∀ h', Keep (h.row [.int .i64 N, .int .i64 D, cv]).next (h.row [.int .i64 N, .int .i64 D, cv]) h' → E.loadVar h' 42 h.next 0 = some (.agg #[.int .i64 N, .int .i64 D, cv]) := fun h' k => (gH.keep (k.get _ gH.lt) k.next).loadAll
  have hld3 : ∀ h', Keep (h.row [.int .i64 N, .int .i64 D, cv]).next (h.row [.int .i64 N, .int .i64 D, cv]) h' → E.loadVar h' 3 h.next 0 = some (.int .i64 N) := fun h' k => (gH.keep (k.get _ gH.lt) k.next).load0
  apply orCall_sound E_ok mixed (scAC1 vb cv N D cs.length b.length h.next (h.row [.int .i64 N, .int .i64 D, cv]) (cs.length ≤ 60 → ∀ c ∈ cs, c.length ≤ 60)
    (fun vc h1 => Sl h1.next h1 vc (bys (encG N D cs)) ∧ Keep (h.row [.int .i64 N, .int .i64 D, cv]).next (h.row [.int .i64 N, .int .i64 D, cv]) h1)
    (fun vc x h2 => E.storeVar (h2.row zr) 42 h2.next 0 x.1 = some x.2 ∧ XF (dec (encG N D cs)) h2.next x ∧ Sl x.2.next x.2 vc (bys (encG N D cs)) ∧ Keep (h.row [.int .i64 N, .int .i64 D, cv]).next (h.row [.int .i64 N, .int .i64 D, cv]) x.2)
    (fun vc x q e h3 => XF (dec (encG N D cs)) q x ∧ Sl h3.next h3 vc (bys (encG N D cs)) ∧ Sl h3.next h3 e (bys (encG N D cs)) ∧ Keep x.2.next x.2 h3 ∧ Keep (h.row [.int .i64 N, .int .i64 D, cv]).next (h.row [.int .i64 N, .int .i64 D, cv]) x.2)
    (fun x q h4 => XF (dec (encG N D cs)) q x ∧ Keep x.2.next x.2 h4 ∧ Keep (h.row [.int .i64 N, .int .i64 D, cv]).next (h.row [.int .i64 N, .int .i64 D, cv]) x.2) (fun x q h5 => XF (dec (encG N D cs)) q x ∧ Keep x.2.next x.2 h5 ∧ Keep (h.row [.int .i64 N, .int .i64 D, cv]).next (h.row [.int .i64 N, .int .i64 D, cv]) x.2) (fun h6 => Keep (h.row [.int .i64 N, .int .i64 D, cv]).next (h.row [.int .i64 N, .int .i64 D, cv]) h6)
    (fun y h7 => E.storeVar (h7.row zr) 42 h7.next 0 y.1 = some y.2 ∧ XF (dec b) h7.next y ∧ Keep (h.row [.int .i64 N, .int .i64 D, cv]).next (h.row [.int .i64 N, .int .i64 D, cv]) y.2) (fun y q z h8 => E.storeVar (h8.row zr) 47 h8.next 0 z.1 = some z.2 ∧ XF (dec b) h8.next z ∧ XF (dec b) q y ∧ Keep y.2.next y.2 z.2 ∧ Keep (h.row [.int .i64 N, .int .i64 D, cv]).next (h.row [.int .i64 N, .int .i64 D, cv]) y.2) (fun h9 => varsOk h9 0 varL = true))
  rw [sc_evC1]
  refine ⟨fun rd => guard_out hvH gH hgH a.hcl, ?_, fun _ _ _ => rfl⟩
  rintro _ h0 ⟨rfl, hPG⟩
  refine ⟨gH.load2, hgH.len 23, fun _ => awP hvH fun _ => rfl, fun hn60 => ⟨hlb _, fun _ => awP hvH fun _ => rfl, fun hm5 => ⟨hld _ (Keep.refl _ _), ?_, ?_⟩⟩⟩
  all_goals have hcs60 : cs.length ≤ 60 := Nat.le_of_not_lt fun hh => of_decide_eq_false hn60 (Int.ofNat_lt.2 hh)
  all_goals have hok : GrpOk N cs := ⟨hNN.2, a.hcs, a.hcl, by have := eCs_small cs (hPG hcs60) a.hw; omega⟩
  · refine (enc_ok hgH hok).mono ?_
    rintro x h1 ⟨v, rfl, o, k⟩
    exact ⟨v, rfl, o.sl, k⟩
  have hb5 : b.length < 4294967296 := by
    have : ¬ 5000 < b.length := fun hh => of_decide_eq_false hm5 (Int.ofNat_lt.2 hh)
    omega
  have hrest := fun h6 (k6 : Keep (h.row [.int .i64 N, .int .i64 D, cv]).next (h.row [.int .i64 N, .int .i64 D, cv]) h6) => rest_true (Q := fun r _ => r = .ret (.bool true)) (fun _ => rfl) k6 hbH hb5 hvH h3H hi
  rintro vc h1 ⟨s1, k1⟩
  refine ⟨(dec_ok s1 (by rw [encG_len]; exact hok.hlen)).mono ?_, ?_⟩
  · intro y h2 d
    obtain ⟨x, e, e1, t, k⟩ := XF.mk42 d
    exact ⟨x, by rw [e]; simp [ho], e1, t, s1.keep k k.next, k1.trans (k.mono k1.next)⟩
  rintro x h2 ⟨e1, t, s2, k2⟩
  refine ⟨e1, rfl, hld _ k2, (encr_ok (hgH.keep k2 k2.next) hok).mono ?_, ?_⟩
  · rintro y h3 ⟨e, rfl, o, k⟩
    exact ⟨e, rfl, t, s2.keep k k.next, o.sl, k, k2⟩
  rintro e h3 ⟨_, s3, se, k3, _⟩
  refine ⟨(equal_ok s3 se).mono ?_, ?_⟩
  · rintro y h4 ⟨rfl, rfl⟩
    exact ⟨(), rfl, t, k3, k2⟩
  rintro _ h4 ⟨_, k4, _⟩
  have kH4 : Keep (h.row [.int .i64 N, .int .i64 D, cv]).next (h.row [.int .i64 N, .int .i64 D, cv]) h4 := k2.trans (k4.mono k2.next)
  refine ⟨hld _ kH4, (may_ok (hgH.keep kH4 kH4.next) a.hcs a.hcl).mono ?_, ?_⟩
  · rintro y h5 ⟨rfl, k⟩
    exact ⟨(), by rw [decide_eq_false hm], t, k4.trans (k.mono k4.next), k2⟩
  rintro _ h5 ⟨_, k5, _⟩
  have kH5 : Keep (h.row [.int .i64 N, .int .i64 D, cv]).next (h.row [.int .i64 N, .int .i64 D, cv]) h5 := k2.trans (k5.mono k2.next)
  have hneg : ¬ 0 ≤ N := fun hh => by
    have hp := dec_put (N := numN N) (D := numD D) (cs := cs) (numN_lt hNN.2) (wrap_numD D).2 (by have := a.hcs; omega) (cLts a.hcl a.hw)
    have e : ((numN N : Nat) : Int) = N := by unfold numN; omega
    rw [e, if_neg hm] at hp
    rw [show eG (numN N) (numD D) cs = encG N D cs from rfl, ho] at hp
    cases hp
  have h0 : ∀ {p : Prop}, decide (N ≥ Int.ofNat 0) = true → p := fun hc => absurd (of_decide_eq_true hc) hneg
  exact ⟨hld3 _ kH5, fun hc => h0 hc, fun _ => ⟨hld3 _ kH5, fun hc => h0 hc, fun _ => hrest h5 kH5⟩⟩
theorem sc_C0 {h : AHeap} {vb cv : Value} {N D : Int} {cs : List Ws} {b : List UInt8} (a : Args h vb cv N D cs b) (hm : ¬ mayN N cs) (gg : G3) (ho : dec (encG N D cs) = some gg) (hi : (dec b).isSome = false) : SC PP 4 [.agg #[.int .i64 N, .int .i64 D, cv], vb] h (fun r _ => r = .ret (.bool true)) := by
  have kH : Keep h.next h (h.row [.int .i64 N, .int .i64 D, cv]) := row_keep h _
  have gH := Grp.row h N D cv
  have hgH : SlG (h.row [.int .i64 N, .int .i64 D, cv]).next (h.row [.int .i64 N, .int .i64 D, cv]) cv cs := a.hg.keep kH kH.next
  have hvH : varsOk (h.row [.int .i64 N, .int .i64 D, cv]) 0 varL = true := vars_keep kH a.h3 a.hv
  have h3H : 3 ≤ (h.row [.int .i64 N, .int .i64 D, cv]).next := Nat.le_trans a.h3 kH.next
  have hbH : Sl (h.row [.int .i64 N, .int .i64 D, cv]).next (h.row [.int .i64 N, .int .i64 D, cv]) vb (bys b) := a.hb.keep kH kH.next
  have hlb : ∀ h', lenS 5 vb h' = some (.int .i64 (.ofNat b.length)) := fun h' => by rw [a.hb.len (h' := h') 5, bys_length]
  have hNN := a.hN
  have hld : ∀ h', Keep (h.row [.int .i64 N, .int .i64 D, cv]).next (h.row [.int .i64 N, .int .i64 D, cv]) h' → E.loadVar h' 42 h.next 0 = some (.agg #[.int .i64 N, .int .i64 D, cv]) := fun h' k => (gH.keep (k.get _ gH.lt) k.next).loadAll
  have hld3 : ∀ h', Keep (h.row [.int .i64 N, .int .i64 D, cv]).next (h.row [.int .i64 N, .int .i64 D, cv]) h' → E.loadVar h' 3 h.next 0 = some (.int .i64 N) := fun h' k => (gH.keep (k.get _ gH.lt) k.next).load0
  apply orCall_sound E_ok mixed (scAC0 vb cv N D cs.length b.length h.next (h.row [.int .i64 N, .int .i64 D, cv]) (cs.length ≤ 60 → ∀ c ∈ cs, c.length ≤ 60)
    (fun vc h1 => Sl h1.next h1 vc (bys (encG N D cs)) ∧ Keep (h.row [.int .i64 N, .int .i64 D, cv]).next (h.row [.int .i64 N, .int .i64 D, cv]) h1)
    (fun vc x h2 => E.storeVar (h2.row zr) 42 h2.next 0 x.1 = some x.2 ∧ XF (dec (encG N D cs)) h2.next x ∧ Sl x.2.next x.2 vc (bys (encG N D cs)) ∧ Keep (h.row [.int .i64 N, .int .i64 D, cv]).next (h.row [.int .i64 N, .int .i64 D, cv]) x.2)
    (fun vc x q e h3 => XF (dec (encG N D cs)) q x ∧ Sl h3.next h3 vc (bys (encG N D cs)) ∧ Sl h3.next h3 e (bys (encG N D cs)) ∧ Keep x.2.next x.2 h3 ∧ Keep (h.row [.int .i64 N, .int .i64 D, cv]).next (h.row [.int .i64 N, .int .i64 D, cv]) x.2)
    (fun x q h4 => XF (dec (encG N D cs)) q x ∧ Keep x.2.next x.2 h4 ∧ Keep (h.row [.int .i64 N, .int .i64 D, cv]).next (h.row [.int .i64 N, .int .i64 D, cv]) x.2) (fun x q h5 => XF (dec (encG N D cs)) q x ∧ Keep x.2.next x.2 h5 ∧ Keep (h.row [.int .i64 N, .int .i64 D, cv]).next (h.row [.int .i64 N, .int .i64 D, cv]) x.2) (fun h6 => Keep (h.row [.int .i64 N, .int .i64 D, cv]).next (h.row [.int .i64 N, .int .i64 D, cv]) h6)
    (fun y h7 => E.storeVar (h7.row zr) 42 h7.next 0 y.1 = some y.2 ∧ XF (dec b) h7.next y ∧ Keep (h.row [.int .i64 N, .int .i64 D, cv]).next (h.row [.int .i64 N, .int .i64 D, cv]) y.2) (fun y q z h8 => E.storeVar (h8.row zr) 47 h8.next 0 z.1 = some z.2 ∧ XF (dec b) h8.next z ∧ XF (dec b) q y ∧ Keep y.2.next y.2 z.2 ∧ Keep (h.row [.int .i64 N, .int .i64 D, cv]).next (h.row [.int .i64 N, .int .i64 D, cv]) y.2) (fun h9 => varsOk h9 0 varL = true))
  rw [sc_evC0]
  refine ⟨fun rd => guard_out hvH gH hgH a.hcl, ?_, fun _ _ _ => rfl⟩
  rintro _ h0 ⟨rfl, hPG⟩
  refine ⟨gH.load2, hgH.len 23, fun _ => awP hvH fun _ => rfl, fun hn60 => ⟨hlb _, fun _ => awP hvH fun _ => rfl, fun hm5 => ⟨hld _ (Keep.refl _ _), ?_, ?_⟩⟩⟩
  all_goals have hcs60 : cs.length ≤ 60 := Nat.le_of_not_lt fun hh => of_decide_eq_false hn60 (Int.ofNat_lt.2 hh)
  all_goals have hok : GrpOk N cs := ⟨hNN.2, a.hcs, a.hcl, by have := eCs_small cs (hPG hcs60) a.hw; omega⟩
  · refine (enc_ok hgH hok).mono ?_
    rintro x h1 ⟨v, rfl, o, k⟩
    exact ⟨v, rfl, o.sl, k⟩
  have hb5 : b.length < 4294967296 := by
    have : ¬ 5000 < b.length := fun hh => of_decide_eq_false hm5 (Int.ofNat_lt.2 hh)
    omega
  have hrest := fun h6 (k6 : Keep (h.row [.int .i64 N, .int .i64 D, cv]).next (h.row [.int .i64 N, .int .i64 D, cv]) h6) => rest_false (Q := fun r _ => r = .ret (.bool true)) (fun _ => rfl) k6 hbH hb5 hvH h3H hi
  rintro vc h1 ⟨s1, k1⟩
  refine ⟨(dec_ok s1 (by rw [encG_len]; exact hok.hlen)).mono ?_, ?_⟩
  · intro y h2 d
    obtain ⟨x, e, e1, t, k⟩ := XF.mk42 d
    exact ⟨x, by rw [e]; simp [ho], e1, t, s1.keep k k.next, k1.trans (k.mono k1.next)⟩
  rintro x h2 ⟨e1, t, s2, k2⟩
  refine ⟨e1, rfl, hld _ k2, (encr_ok (hgH.keep k2 k2.next) hok).mono ?_, ?_⟩
  · rintro y h3 ⟨e, rfl, o, k⟩
    exact ⟨e, rfl, t, s2.keep k k.next, o.sl, k, k2⟩
  rintro e h3 ⟨_, s3, se, k3, _⟩
  refine ⟨(equal_ok s3 se).mono ?_, ?_⟩
  · rintro y h4 ⟨rfl, rfl⟩
    exact ⟨(), rfl, t, k3, k2⟩
  rintro _ h4 ⟨_, k4, _⟩
  have kH4 : Keep (h.row [.int .i64 N, .int .i64 D, cv]).next (h.row [.int .i64 N, .int .i64 D, cv]) h4 := k2.trans (k4.mono k2.next)
  refine ⟨hld _ kH4, (may_ok (hgH.keep kH4 kH4.next) a.hcs a.hcl).mono ?_, ?_⟩
  · rintro y h5 ⟨rfl, k⟩
    exact ⟨(), by rw [decide_eq_false hm], t, k4.trans (k.mono k4.next), k2⟩
  rintro _ h5 ⟨_, k5, _⟩
  have kH5 : Keep (h.row [.int .i64 N, .int .i64 D, cv]).next (h.row [.int .i64 N, .int .i64 D, cv]) h5 := k2.trans (k5.mono k2.next)
  have hneg : ¬ 0 ≤ N := fun hh => by
    have hp := dec_put (N := numN N) (D := numD D) (cs := cs) (numN_lt hNN.2) (wrap_numD D).2 (by have := a.hcs; omega) (cLts a.hcl a.hw)
    have e : ((numN N : Nat) : Int) = N := by unfold numN; omega
    rw [e, if_neg hm] at hp
    rw [show eG (numN N) (numD D) cs = encG N D cs from rfl, ho] at hp
    cases hp
  have h0 : ∀ {p : Prop}, decide (N ≥ Int.ofNat 0) = true → p := fun hc => absurd (of_decide_eq_true hc) hneg
  exact ⟨hld3 _ kH5, fun hc => h0 hc, fun _ => ⟨hld3 _ kH5, fun hc => h0 hc, fun _ => hrest h5 kH5⟩⟩
theorem sc_ok {h : AHeap} {vb cv : Value} {N D : Int} {cs : List Ws} {b : List UInt8} (a : Args h vb cv N D cs b) : SC PP 4 [.agg #[.int .i64 N, .int .i64 D, cv], vb] h (fun r _ => r = .ret (.bool true)) := by
  by_cases hm : mayN N cs
  · cases hi : (dec b).isSome with
    | true => exact sc_A1 a hm hi
    | false => exact sc_A0 a hm hi
  · cases ho : dec (encG N D cs) with
    | none =>
      cases hi : (dec b).isSome with
      | true => exact sc_B1 a hm ho hi
      | false => exact sc_B0 a hm ho hi
    | some g =>
      cases hi : (dec b).isSome with
      | true => exact sc_C1 a hm g ho hi
      | false => exact sc_C0 a hm g ho hi
end
end Go.Proofs.YtkkbpknpongmfaaGreatDoor

/- What SessCodes is called with, as rows of the abstract heap. -/
namespace Go.Proofs.YtkkbpknpongmfaaGreatDoor
open Go Go.Abs Go.RowKit Go.ChangeShapes Go.WideShapes Go.Joins Go.Deep
noncomputable section
/-- The values of a slice that came in; where its row lies; the slice over a row of a name. -/
def inRow (W : World) : Value → List Value
  | .slice (some ⟨c, o, none⟩) n _ => match W.heap[c]? with
    | some (.cells arr _ _) => (List.range n).map fun i => (arr[i + o]?).getD undef
    | _ => []
  | _ => []
def inPl : Value → Nat × Nat
  | .slice (some ⟨c, o, none⟩) _ (_ + 1) => (c, o)
  | _ => (0, 0)
def inAv (name : Nat) : Value → Value
  | .slice (some _) n _ => .slice (some ⟨name, 0, none⟩) n 1
  | v => v
/-- What is known of a slice that came in. -/
structure In (R : Value → Prop) (W : World) (x : Value) : Prop where
  vr : ∀ (γ : Gam) (name : Nat), γ name = some (inPl x) → VR γ (inAv name x) x
  at_ : ∃ arr el fz, W.heap[(inPl x).1]? = some (.cells arr el fz) ∧ ∀ (i : Nat) (v : Value), (inRow W x)[i]? = some v → arr[i + (inPl x).2]? = some v ∧ R v
  sl : ∀ (h : AHeap) (B name : Nat) (md : Md) (L : List Value), name < B → h.get name = some (.cells (PT.leaf.puts 0 L) md) → L.length = (inRow W x).length → Sl B h (inAv name x) L

theorem capR_one (γ : Gam) (m : Nat) : capR γ 1 m := (capR_odd (c := 0) (by omega)).2 (Nat.zero_le m)
theorem inRow_empty (W : World) (a : Addr) (m : Nat) : inRow W (.slice (some a) 0 m) = [] := by
  obtain ⟨c, o, sp⟩ := a
  cases sp with
  | none =>
    unfold inRow
    simp only [List.range_zero, List.map_nil]
    split <;> rfl
  | some s => rfl
theorem in_of {R : Value → Prop} {W : World} {x : Value} (h0 : ∃ arr el fz, W.heap[0]? = some (.cells arr el fz)) (s : SlIn R W x) : In R W x := by
  obtain ⟨arr0, el0, fz0, hw0⟩ := h0
  rcases s.as with rfl | ⟨a, rfl⟩ | ⟨c, o, n, m, arr, el, fz, rfl, hnm, hn, hw, hx⟩
  · exact ⟨fun γ name _ => .flat rfl, ⟨arr0, el0, fz0, hw0, fun i v h => by simp [inRow] at h⟩, fun h B name md L _ _ hl => by
      have : L = [] := List.length_eq_zero_iff.1 hl
      subst this; exact .nil⟩
  · have hpl : inPl (.slice (some a) 0 0) = (0, 0) := by obtain ⟨c, o, sp⟩ := a; cases sp <;> rfl
    refine ⟨fun γ name _ => .slice0, ⟨arr0, el0, fz0, by rw [hpl]; exact hw0, fun i v h => by rw [inRow_empty] at h; simp at h⟩, fun h B name md L hb _ hl => ?_⟩
    rw [inRow_empty] at hl
    have : L = [] := List.length_eq_zero_iff.1 hl
    subst this
    exact .row (l := []) hb (by simp [AHeap.loadN])
  · cases m with
    | zero =>
      obtain rfl : n = 0 := by omega
      refine ⟨fun γ name _ => .slice0, ⟨arr0, el0, fz0, hw0, fun i v h => by rw [inRow_empty] at h; simp at h⟩, fun h B name md L hb _ hl => ?_⟩
      rw [inRow_empty] at hl
      have : L = [] := List.length_eq_zero_iff.1 hl
      subst this
      exact .row (l := []) hb (by simp [AHeap.loadN])
    | succ m =>
      have hrow : inRow W (.slice (some ⟨c, o, none⟩) n (m + 1)) = (List.range n).map fun i => (arr[i + o]?).getD undef := by
        unfold inRow; simp only [hw]
      refine ⟨fun γ name hg => ?_, ⟨arr, el, fz, hw, fun i v h => ?_⟩, fun h B name md L hb hg hl => ?_⟩
      · have := VR.slice (o := 0) (k := 1) hg (capR_one γ (m + 1)) hnm
        rwa [Nat.zero_add] at this
      · rw [hrow, List.getElem?_map] at h
        have hi : i < n := by
          rcases Nat.lt_or_ge i n with h1 | h1
          · exact h1
          · rw [List.getElem?_eq_none (by simpa using h1)] at h; cases h
        rw [List.getElem?_range hi] at h
        obtain ⟨y, hy, hr⟩ := hx i hi
        simp only [Option.map_some, Option.some.injEq] at h
        rw [hy] at h
        simp only [Option.getD_some] at h
        subst h
        exact ⟨hy, hr⟩
      · rw [hrow, List.length_map, List.length_range] at hl
        subst hl
        exact .row hb (loadN_all hg)

theorem heapR_get (ng : Nat) (l : List (PT Value)) (b : Nat) : (heapR ng l).get b = if b < l.length then (l[b]?).map (fun cs => .cells cs .ro) else none := by
  show (heap0 l 0 .leaf).get b = _
  rw [heap0_get l 0 .leaf (fun m _ => PT.get_leaf m)]
  simp only [Nat.zero_le, true_and, Nat.zero_add, Nat.sub_zero, PT.get_leaf]
theorem heapR_next (ng : Nat) (l : List (PT Value)) : (heapR ng l).next = l.length := by
  have := (heap0_ng l 0 .leaf).2.1
  rw [Nat.zero_add] at this
  exact this
theorem heapR_row {ng : Nat} {l : List (PT Value)} {b : Nat} {cs : PT Value} (h : l[b]? = some cs) : (heapR ng l).get b = some (.cells cs .ro) ∧ b < (heapR ng l).next := by
  have hb : b < l.length := (List.getElem?_eq_some_iff.1 h).1
  rw [heapR_get, if_pos hb, h, heapR_next]
  exact ⟨rfl, hb⟩
theorem vars_heapR (rest : List (PT Value)) : varsOk (heapR 3 (rowsOf varL ++ rest)) 0 varL = true := by
  have hg : ∀ (b : Nat) (vs : List Value), varL[b]? = some vs → b < 3 → (heapR 3 (rowsOf varL ++ rest)).loadN b 0 vs.length = some vs := by
    intro b vs h hb
    have h1 : (rowsOf varL ++ rest)[b]? = some (PT.leaf.puts 0 vs) := by
      rw [List.getElem?_append_left (by exact hb)]
      unfold rowsOf
      rw [List.getElem?_map, h]; rfl
    exact loadN_all (heapR_row h1).1
  have h0 := hg 0 _ rfl (by decide)
  have h1 := hg 1 _ rfl (by decide)
  have h2 := hg 2 _ rfl (by decide)
  unfold varL at h0 h1 h2 ⊢
  simp only [List.map_cons, List.map_nil, List.length_cons, List.length_nil] at h0 h1 h2 ⊢
  simp only [varsOk]
  simp only [List.length_cons, List.length_nil, h0, h1, h2, show (heapR 3 (rowsOf ([[1, 1, 1], [1, -1, 1], [1, 2, 1]].map fun l => l.map fun n => Value.int .i64 n) ++ rest)).ng = 3 from rfl]
  rfl
/-! The run. -/
def unS : Value → List UInt8
  | .string t => t.data.toList
  | _ => []
def unB : Value → UInt8
  | .int _ n => UInt8.ofNat n.toNat
  | _ => 0
def Rs (x : Value) : Prop := ∃ l : List UInt8, x = str l ∧ l.length ≤ 1048576
def Rb (x : Value) : Prop := ∃ c : UInt8, x = .int .u8 (.ofNat c.toNat)
theorem map_unS {l : List Value} (h : ∀ (i : Nat) (v : Value), l[i]? = some v → Rs v) : (l.map unS).map str = l := by
  rw [List.map_map]
  refine List.ext_getElem? fun i => ?_
  rw [List.getElem?_map]
  cases hv : l[i]? with
  | none => rfl
  | some v =>
    obtain ⟨w, rfl, _⟩ := h i v hv
    rfl
theorem map_unB {l : List Value} (h : ∀ (i : Nat) (v : Value), l[i]? = some v → Rb v) : bys (l.map unB) = l := by
  unfold bys
  rw [List.map_map]
  refine List.ext_getElem? fun i => ?_
  rw [List.getElem?_map]
  cases hv : l[i]? with
  | none => rfl
  | some v =>
    obtain ⟨c, rfl⟩ := h i v hv
    simp [unB]
theorem LL.of {B : Nat} {h : AHeap} : ∀ {lv : List Value} {cs : List Ws}, lv.length = cs.length → (∀ (i : Nat) (v : Value) (c : Ws), lv[i]? = some v → cs[i]? = some c → Sl B h v (c.map str) ∧ oneCell v = true) → LL B h lv cs
  | [], [], _, _ => .nil
  | v :: lv, c :: cs, hl, hh => by
    obtain ⟨h1, h2⟩ := hh 0 v c rfl rfl
    exact .cons h1 h2 (LL.of (by simpa using hl) fun i v c e1 e2 => hh (i + 1) v c (by simpa using e1) (by simpa using e2))
theorem get_app3 {α : Type} {a r : List α} (ha : a.length = 3) (k : Nat) : (a ++ r)[k + 3]? = r[k]? := by
  rw [List.getElem?_append_right (by omega)]
  congr 1; omega
theorem law_runs {W : World} (hc : ∀ b cs, (rowsOf varL)[b]? = some cs → CellsAt W b cs) {N D : Int} (hN : -9223372036854775808 ≤ N ∧ N < 9223372036854775808) (hD : -9223372036854775808 ≤ D ∧ D < 9223372036854775808) {vc vb : Value}
    (hs : SlIn (fun x => SlIn Rs W x ∧ (inRow W x).length ≤ 1048576) W vc) (hsl : (inRow W vc).length ≤ 1048576) (hb : SlIn Rb W vb) (hbl : (inRow W vb).length ≤ 1048576) :
    Calls Tryz.prog 4 #[.agg #[.int .i64 N, .int .i64 D, vc], vb] W fun e w' => e = .returned (.bool true) ∧ Below W.heap.size W w' := by
  have h0 : ∃ arr el fz, W.heap[0]? = some (.cells arr el fz) := by
    obtain ⟨arr, el, fz, hw, _⟩ := hc 0 _ rfl
    exact ⟨arr, el, fz, hw⟩
  have iC := in_of h0 hs
  have iB := in_of h0 hb
  obtain ⟨arrC, elC, fzC, hwC, hC⟩ := iC.at_
  obtain ⟨arrB, elB, fzB, hwB, hB⟩ := iB.at_
  have iI : ∀ (i : Nat) (x : Value), (inRow W vc)[i]? = some x → In Rs W x ∧ (inRow W x).length ≤ 1048576 := fun i x hx => ⟨in_of h0 (hC i x hx).2.1, (hC i x hx).2.2⟩
  have iR : ∀ (i : Nat) (x : Value), (inRow W vc)[i]? = some x → ∀ (j : Nat) (v : Value), (inRow W x)[j]? = some v → Rs v := fun i x hx j v hv => by
    obtain ⟨arr, el, fz, _, h⟩ := (iI i x hx).1.at_
    exact (h j v hv).2
  generalize hxs : inRow W vc = xs at *
  have hlen3 : (rowsOf varL).length = 3 := rfl
  have hplen : ([(0, 0), (1, 0), (2, 0)] : List (Nat × Nat)).length = 3 := rfl
  have ep : ∀ k, ([(0, 0), (1, 0), (2, 0)] ++ (inPl vc :: inPl vb :: xs.map inPl))[k + 3]? = (inPl vc :: inPl vb :: xs.map inPl)[k]? := fun k => get_app3 hplen k
  have el : ∀ k, (rowsOf varL ++ (PT.leaf.puts 0 (xs.mapIdx fun j x => inAv (j + 5) x) :: PT.leaf.puts 0 (inRow W vb) :: xs.map fun x => PT.leaf.puts 0 (inRow W x)))[k + 3]? = (PT.leaf.puts 0 (xs.mapIdx fun j x => inAv (j + 5) x) :: PT.leaf.puts 0 (inRow W vb) :: xs.map fun x => PT.leaf.puts 0 (inRow W x))[k]? := fun k => get_app3 hlen3 k
  generalize hpl : ([(0, 0), (1, 0), (2, 0)] ++ (inPl vc :: inPl vb :: xs.map inPl) : List (Nat × Nat)) = pl at ep
  have hvars := vars_heapR (PT.leaf.puts 0 (xs.mapIdx fun j x => inAv (j + 5) x) :: PT.leaf.puts 0 (inRow W vb) :: xs.map fun x => PT.leaf.puts 0 (inRow W x))
  have hget3 : ∀ b : Nat, b < 3 → (rowsOf varL ++ (PT.leaf.puts 0 (xs.mapIdx fun j x => inAv (j + 5) x) :: PT.leaf.puts 0 (inRow W vb) :: xs.map fun x => PT.leaf.puts 0 (inRow W x)))[b]? = (rowsOf varL)[b]? := fun b hb => List.getElem?_append_left (by rw [hlen3]; exact hb)
  have hpl3 : ∀ b : Nat, b < 3 → pl[b]? = some (b, 0) := fun b hb => by
    rw [← hpl, List.getElem?_append_left (by rw [hplen]; exact hb)]
    match b, hb with
    | 0, _ => rfl
    | 1, _ => rfl
    | 2, _ => rfl
  have hlenL : pl.length = (rowsOf varL ++ (PT.leaf.puts 0 (xs.mapIdx fun j x => inAv (j + 5) x) :: PT.leaf.puts 0 (inRow W vb) :: xs.map fun x => PT.leaf.puts 0 (inRow W x))).length := by
    rw [← hpl]
    simp only [List.length_append, List.length_cons, List.length_map, hlen3, List.length_nil]
  generalize hL : rowsOf varL ++ (PT.leaf.puts 0 (xs.mapIdx fun j x => inAv (j + 5) x) :: PT.leaf.puts 0 (inRow W vb) :: xs.map fun x => PT.leaf.puts 0 (inRow W x)) = L at *
  have eI : ∀ (i : Nat) (x : Value), xs[i]? = some x → L[i + 5]? = some (PT.leaf.puts 0 (inRow W x)) ∧ pl[i + 5]? = some (inPl x) := fun i x hx => by
    constructor
    · rw [show i + 5 = (i + 2) + 3 from rfl, el]
      simp [hx]
    · rw [show i + 5 = (i + 2) + 3 from rfl, ep]
      simp [hx]
  have e3 : L[3]? = some (PT.leaf.puts 0 (xs.mapIdx fun j x => inAv (j + 5) x)) ∧ pl[3]? = some (inPl vc) := ⟨el 0, ep 0⟩
  have e4 : L[4]? = some (PT.leaf.puts 0 (inRow W vb)) ∧ pl[4]? = some (inPl vb) := ⟨el 1, ep 1⟩
  have r3 := heapR_row (ng := 3) e3.1
  have r4 := heapR_row (ng := 3) e4.1
  have hmb : bys ((inRow W vb).map unB) = inRow W vb := map_unB fun i v h => (hB i v h).2
  -- the walk's premises
  have ha : Args (heapR 3 L) (inAv 4 vb) (inAv 3 vc) N D (xs.map fun x => (inRow W x).map unS) ((inRow W vb).map unB) := by
    refine ⟨⟨xs.mapIdx fun j x => inAv (j + 5) x, ?_, ?_⟩, ?_, hvars, by have := r3.2; omega, hN, hD, by rw [List.length_map]; omega, ?_, ?_, by rw [List.length_map]; omega⟩
    · exact iC.sl _ _ 3 .ro _ r3.2 r3.1 (by rw [List.length_mapIdx, hxs])
    · refine LL.of (by rw [List.length_mapIdx, List.length_map]) fun i v c h1 h2 => ?_
      rw [List.getElem?_mapIdx] at h1
      rw [List.getElem?_map] at h2
      cases hx : xs[i]? with
      | none => rw [hx] at h1; cases h1
      | some x =>
        rw [hx] at h1 h2
        simp only [Option.map_some, Option.some.injEq] at h1 h2
        subst h1 h2
        rw [map_unS (iR i x hx)]
        have r5 := heapR_row (ng := 3) (eI i x hx).1
        have := (iI i x hx).1.sl _ _ (i + 5) .ro _ r5.2 r5.1 rfl
        exact ⟨this, sl_one this⟩
    · rw [hmb]
      exact iB.sl _ _ 4 .ro _ r4.2 r4.1 rfl
    · intro c hcm
      obtain ⟨x, hxm, rfl⟩ := List.mem_map.1 hcm
      obtain ⟨i, hi⟩ := List.getElem?_of_mem hxm
      rw [List.length_map]
      have := (iI i x hi).2
      omega
    · intro c hcm w hw
      obtain ⟨x, hxm, rfl⟩ := List.mem_map.1 hcm
      obtain ⟨i, hi⟩ := List.getElem?_of_mem hxm
      obtain ⟨v, hvm, rfl⟩ := List.mem_map.1 hw
      obtain ⟨j, hj⟩ := List.getElem?_of_mem hvm
      obtain ⟨l, rfl, hl⟩ := iR i x hi j v hj
      exact hl
  refine below_of_run (Q := fun r _ => r = .ret (.bool true)) (fun _ _ q => q) (run_rows (pl := pl) (sc_ok ha) hlenL hpl3 ?_ ?_)
  · intro b cs c d h1 h2
    match b with
    | 0 =>
      rw [hget3 0 (by omega)] at h1
      rw [hpl3 0 (by omega)] at h2
      obtain ⟨rfl, rfl⟩ : 0 = c ∧ 0 = d := by simpa using h2
      exact (hc 0 cs h1).rowAt _
    | 1 =>
      rw [hget3 1 (by omega)] at h1
      rw [hpl3 1 (by omega)] at h2
      obtain ⟨rfl, rfl⟩ : 1 = c ∧ 0 = d := by simpa using h2
      exact (hc 1 cs h1).rowAt _
    | 2 =>
      rw [hget3 2 (by omega)] at h1
      rw [hpl3 2 (by omega)] at h2
      obtain ⟨rfl, rfl⟩ : 2 = c ∧ 0 = d := by simpa using h2
      exact (hc 2 cs h1).rowAt _
    | 3 =>
      rw [e3.1] at h1
      rw [e3.2] at h2
      simp only [Option.some.injEq] at h1 h2
      subst h1
      rw [h2] at hwC hC
      refine ⟨arrC, elC, fzC, hwC, fun i v hv => ?_⟩
      rw [PT.get_puts] at hv
      split at hv
      · rw [Nat.sub_zero, List.getElem?_mapIdx] at hv
        cases hx : xs[i]? with
        | none => rw [hx] at hv; cases hv
        | some x =>
          rw [hx] at hv
          simp only [Option.map_some, Option.some.injEq] at hv
          subst hv
          exact ⟨x, (hC i x hx).1, (iI i x hx).1.vr _ _ (eI i x hx).2⟩
      · rw [PT.get_leaf] at hv; cases hv
    | 4 =>
      rw [e4.1] at h1
      rw [e4.2] at h2
      simp only [Option.some.injEq] at h1 h2
      subst h1
      rw [h2] at hwB hB
      refine ⟨arrB, elB, fzB, hwB, fun i v hv => ?_⟩
      rw [PT.get_puts] at hv
      split at hv
      · rw [Nat.sub_zero] at hv
        obtain ⟨g1, cc, rfl⟩ := hB i v hv
        exact ⟨_, g1, .flat rfl⟩
      · rw [PT.get_leaf] at hv; cases hv
    | k + 5 =>
      rw [show k + 5 = (k + 2) + 3 from rfl, el] at h1
      rw [show k + 5 = (k + 2) + 3 from rfl, ep] at h2
      simp only [List.getElem?_cons_succ, List.getElem?_map] at h1 h2
      cases hx : xs[k]? with
      | none => rw [hx] at h1; cases h1
      | some x =>
        rw [hx] at h1 h2
        simp only [Option.map_some, Option.some.injEq] at h1 h2
        subst h1
        obtain ⟨arr, el', fz, hw, hh⟩ := (iI k x hx).1.at_
        rw [h2] at hw hh
        refine ⟨arr, el', fz, hw, fun i v hv => ?_⟩
        rw [PT.get_puts] at hv
        split at hv
        · rw [Nat.sub_zero] at hv
          obtain ⟨g1, l, rfl, _⟩ := hh i v hv
          exact ⟨_, g1, .flat rfl⟩
        · rw [PT.get_leaf] at hv; cases hv
  · exact .cons (.agg (.cons (.flat rfl) (.cons (.flat rfl) (.cons (iC.vr _ _ e3.2) .nil)))) (.cons (iB.vr _ _ e4.2) .nil)
end
end Go.Proofs.YtkkbpknpongmfaaGreatDoor

/- SessCodes: what its arguments are, where their bulk is bounded. -/
namespace Go.Proofs.YtkkbpknpongmfaaGreatDoor
open Go Go.Abs Go.RowKit Go.ChangeShapes Go.WideShapes Go.Joins Go.Deep
theorem c30 : Tryz.prog.cellsOf 30 = 1 := by kernel_rfl
theorem c42 : Tryz.prog.cellsOf 42 = 3 := by kernel_rfl
theorem c9 : Tryz.prog.cellsOf 9 = 1 := by kernel_rfl
theorem c5 : Tryz.prog.cellsOf 5 = 1 := by kernel_rfl
theorem c23 : Tryz.prog.cellsOf 23 = 1 := by kernel_rfl
theorem c50 : Tryz.prog.cellsOf 50 = 1 := by kernel_rfl

/-! The bulk. -/
abbrev bulk {H : Type} (d : DataW H) : Nat := Rows.uptoBulk d
theorem bulk_pos {H : Type} (d : DataW H) : 1 ≤ bulk d := by
  cases d with
  | lit l => cases l <;> simp [bulk, Rows.uptoBulk]
  | nil => simp [bulk, Rows.uptoBulk]
  | ptr d => simp [bulk, Rows.uptoBulk]
  | slice elems spare => simp [bulk, Rows.uptoBulk]
  | agg parts => simp [bulk, Rows.uptoBulk]
  | iface t d => simp [bulk, Rows.uptoBulk]
  | map entries => simp [bulk, Rows.uptoBulk]
  | held h => simp [bulk, Rows.uptoBulk]
theorem bulk_part {H : Type} {d : DataW H} {l : List (DataW H)} (h : d ∈ l) : bulk d ≤ Rows.uptoBulkAll l := by
  induction l with
  | nil => cases h
  | cons x r ih =>
    simp only [Rows.uptoBulkAll]
    rcases List.mem_cons.1 h with e | e
    · subst e; unfold bulk; omega
    · have := ih e; unfold bulk at this ⊢; omega
theorem bulk_len {H : Type} (l : List (DataW H)) : l.length ≤ Rows.uptoBulkAll l := by
  induction l with
  | nil => simp
  | cons x r ih => have := bulk_pos x; simp only [Rows.uptoBulkAll, List.length_cons]; unfold bulk at this; omega
/-- A slice that came in, whose bulk is at most so much. -/
theorem slice_in2 {H : Type} {enc : TypeId × Value → H} {P : Program} {w : World} {base : Nat} {held : Bool} {fuel K : Nat} {t e : TypeId} {R : Value → Prop} {cs : List Value} {y : DataW H × List MemPlace}
    (ht : P.underlying t = some (.slice e)) (hce : P.cellsOf e = 1) (hR : ∀ n c x, DataW.trod enc P w base (fun _ => true) held n e [c] = some x → bulk x.1 ≤ K → R c) (hk : bulk y.1 ≤ K) (h : DataW.trod enc P w base (fun _ => true) held fuel t cs = some y) :
    ∃ v, cs = [v] ∧ SlIn R w v ∧ (inRow w v).length ≤ K := by
  rcases DataW.trod_slice ht h with ⟨rfl, _⟩ | ⟨a, len, cap, elems, rest, n, _, rfl, rfl, _, hlc, hcap, hel, he, hr, _⟩
  · exact ⟨_, rfl, ⟨.inl rfl⟩, by simp [inRow]⟩
  have hmax : cap < 9223372036854775808 := by have : maxLen = 9223372036854775807 := by decide
                                              omega
  have hlK : len ≤ K := by
    have h1 := bulk_len (elems.map (·.1))
    rw [List.length_map] at h1
    simp only [bulk, Rows.uptoBulk] at hk
    omega
  have hpart : ∀ z, z ∈ elems ∨ z ∈ rest → bulk z.1 ≤ K := by
    intro z hz
    simp only [bulk, Rows.uptoBulk] at hk
    rcases hz with hz | hz
    · have := bulk_part (List.mem_map_of_mem (f := fun x : DataW H × List MemPlace => x.1) hz); omega
    · have := bulk_part (List.mem_map_of_mem (f := fun x : DataW H × List MemPlace => x.1) hz); omega
  have hcell : ∀ i, i < cap → ∃ x z, (w.cells? base (a.add (i * 1)) 1) = some [x] ∧ DataW.trod enc P w base (fun _ => true) held n e [x] = some z ∧ w.cell? (a.add i) = some x ∧ bulk z.1 ≤ K := by
    intro i hi
    rw [hce] at he hr
    have hz : ∃ z, (w.cells? base (a.add (i * 1)) 1).bind (DataW.trod enc P w base (fun _ => true) held n e) = some z ∧ bulk z.1 ≤ K := by
      by_cases hil : i < len
      · exact ⟨elems[i]'(by omega), by rw [he i hil]; exact List.getElem?_eq_getElem _, hpart _ (.inl (List.getElem_mem _))⟩
      · obtain ⟨h1, h2⟩ := hr rfl
        have := h2 (i - len) (by omega)
        rw [show len + (i - len) = i from by omega] at this
        exact ⟨rest[i - len]'(by omega), by rw [this]; exact List.getElem?_eq_getElem _, hpart _ (.inr (List.getElem_mem _))⟩
    obtain ⟨z, hz, hb⟩ := hz
    cases hc : w.cells? base (a.add (i * 1)) 1 with
    | none => rw [hc] at hz; cases hz
    | some l =>
      rw [hc] at hz
      simp only [Option.bind_some] at hz
      unfold World.cells? at hc
      split at hc
      · have hr1 : List.range 1 = [0] := rfl
        rw [hr1] at hc
        simp only [List.mapM_cons, List.mapM_nil, Option.bind_eq_bind, Option.bind_eq_some_iff, Option.pure_def, Option.some.injEq] at hc
        obtain ⟨x, hx, r, hr', rfl⟩ := hc
        subst hr'
        refine ⟨x, z, rfl, hz, ?_, hb⟩
        have : (a.add (i * 1)).add 0 = a.add i := by rw [Nat.mul_one]; rfl
        rw [this] at hx
        exact hx
      · cases hc
  by_cases hc0 : cap = 0
  · subst hc0
    obtain rfl : len = 0 := by omega
    exact ⟨_, rfl, ⟨.inr (.inl ⟨a, rfl⟩)⟩, by rw [inRow_empty]; simp⟩
  · obtain ⟨x0, _, _, _, hx0, _⟩ := hcell 0 (by omega)
    have ha0 : a.add 0 = a := rfl
    rw [ha0] at hx0
    obtain ⟨c, o, sp⟩ := a
    unfold World.cell? at hx0
    split at hx0
    · rename_i arr el fz hw
      split at hx0
      · cases hx0
      · rename_i hsp
        have : sp = none := by cases sp <;> simp_all
        subst this
        refine ⟨_, rfl, ⟨.inr (.inr ⟨c, o, len, cap, arr, el, fz, rfl, hlc, by omega, hw, fun i hi => ?_⟩)⟩, ?_⟩
        · obtain ⟨x, z, _, h2, h3, hb⟩ := hcell i (by omega)
          refine ⟨x, ?_, hR _ _ _ h2 hb⟩
          have hadd : (⟨c, o, none⟩ : Addr).add i = ⟨c, o + i, none⟩ := by
            unfold Addr.add; split
            · rename_i h; subst h; rfl
            · rfl
          rw [hadd] at h3
          unfold World.cell? at h3
          simp only at hw
          rw [hw] at h3
          simp only [Option.isSome_none, Bool.false_eq_true, if_false] at h3
          rw [Nat.add_comm]; exact h3
        · unfold inRow
          simp only
          split
          · rw [List.length_map, List.length_range]; exact hlK
          · simp
    · cases hx0

set_option maxRecDepth 100000 in
/-- What the arguments are. -/
theorem group_in {H : Type} {enc : TypeId × Value → H} {W : World} {base : Nat} {v : Value} {d : DataW H} {p : List MemPlace} (hv : Value.okWide Tryz.prog W .any base 42 v) (h : DataW.Trod enc Tryz.prog W 0 (fun _ => true) true 42 v d p) (hk : bulk d ≤ 1048576) :
    ∃ N D vc, v = .agg #[.int .i64 N, .int .i64 D, vc] ∧ (IntKind.i64.min ≤ N ∧ N ≤ IntKind.i64.max) ∧ (IntKind.i64.min ≤ D ∧ D ≤ IntKind.i64.max) ∧ SlIn (fun x => SlIn Rs W x ∧ (inRow W x).length ≤ 1048576) W vc ∧ (inRow W vc).length ≤ 1048576 := by
  obtain ⟨cs, rfl, hsz⟩ := okWide_struct Tryz.underlying42 hv
  rw [c42] at hsz
  obtain ⟨c0, c1, c2, rfl⟩ : ∃ c0 c1 c2, cs = #[c0, c1, c2] := by
    obtain ⟨l⟩ := cs
    match l, hsz with
    | [c0, c1, c2], _ => exact ⟨c0, c1, c2, rfl⟩
  obtain ⟨fuel, h⟩ := h
  obtain ⟨y0, y1, y2, n, hx, _, g0, g1, g2⟩ := trod_struct3 Tryz.underlying42 h
  rw [show Tryz.prog.cellsOf _ = 1 from c3] at g0
  rw [show Tryz.prog.cellsOf _ = 1 from c3] at g1
  rw [show Tryz.prog.cellsOf _ = 1 from c30] at g2
  obtain ⟨N, e0, _, w0⟩ := DataW.trod_int Tryz.underlying3 g0
  obtain ⟨D, e1, _, w1⟩ := DataW.trod_int Tryz.underlying3 g1
  have hd : bulk y2.1 ≤ 1048576 := by
    have h1 := congrArg Prod.fst hx
    simp only at h1
    subst h1
    have := bulk_part (d := y2.1) (l := [y0.1, y1.1, y2.1]) (by simp)
    simp only [bulk, Rows.uptoBulk] at hk
    omega
  have hword : ∀ n c (x : DataW H × List MemPlace), DataW.trod enc Tryz.prog W 0 (fun _ => true) true n 9 [c] = some x → bulk x.1 ≤ 1048576 → Rs c := fun n c x hx hb => by
    obtain ⟨t, ht, hl, _⟩ := DataW.trod_string Tryz.underlying9 hx
    have ht : c = .string t := by simpa using ht
    subst ht
    refine ⟨t.data.toList, rfl, ?_⟩
    rw [hl] at hb
    simp only [bulk, Rows.uptoBulk] at hb
    omega
  obtain ⟨s, e2, hs, hs2⟩ := slice_in2 (R := fun x => SlIn Rs W x ∧ (inRow W x).length ≤ 1048576) (K := 1048576) Tryz.underlying30 c23 (fun n c x hx hb => by
    obtain ⟨v, ev, h1, h2⟩ := slice_in2 (R := Rs) (K := 1048576) Tryz.underlying23 c9 hword hb hx
    have : c = v := by simpa using ev
    subst this
    exact ⟨h1, h2⟩) hd g2
  simp [Value.cells] at e0 e1 e2
  subst e0 e1 e2
  refine ⟨N, D, _, rfl, ?_, ?_, hs, hs2⟩
  · simpa [Lit.wf] using w0
  · simpa [Lit.wf] using w1
set_option maxRecDepth 100000 in
theorem bytes_in {H : Type} {enc : TypeId × Value → H} {W : World} {base : Nat} {v : Value} {d : DataW H} {p : List MemPlace} (hv : Value.okWide Tryz.prog W .any base 50 v) (h : DataW.Trod enc Tryz.prog W 0 (fun _ => true) true 50 v d p) (hk : bulk d ≤ 1048576) :
    SlIn Rb W v ∧ (inRow W v).length ≤ 1048576 := by
  obtain ⟨fuel, h⟩ := h
  have hbyte : ∀ n c (x : DataW H × List MemPlace), DataW.trod enc Tryz.prog W 0 (fun _ => true) true n 5 [c] = some x → bulk x.1 ≤ 1048576 → Rb c := fun n c x hx _ => by
    obtain ⟨m, hm, _, wf⟩ := DataW.trod_int Tryz.underlying5 hx
    have hm : c = .int .u8 m := by simpa using hm
    subst hm
    have wf : 0 ≤ m ∧ m ≤ 255 := by simpa [Lit.wf, IntKind.min, IntKind.max, IntKind.signed, IntKind.bits] using wf
    refine ⟨UInt8.ofNat m.toNat, ?_⟩
    congr 1
    rw [show (UInt8.ofNat m.toNat).toNat = m.toNat from by simp; omega]
    simp only [Int.ofNat_eq_natCast]; omega
  obtain ⟨s, e2, hs, hs2⟩ := slice_in2 (R := Rb) (K := 1048576) Tryz.underlying50 c5 hbyte hk h
  obtain ⟨a, len, cap, rfl⟩ := okWide_slice Tryz.underlying50 hv
  have : s = .slice a len cap := by simpa [Value.cells] using e2.symm
  subst this
  exact ⟨hs, hs2⟩

end Go.Proofs.YtkkbpknpongmfaaGreatDoor
