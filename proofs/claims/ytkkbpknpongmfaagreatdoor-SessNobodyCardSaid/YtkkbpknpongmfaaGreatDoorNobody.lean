/- Called with any Act, SessNobody returns true and leaves its argument as it was, where verb.one, verb.two and verb.all hold what the program's text lays (the card ties that). -/
import Derived.Test.YtkkbpknpongmfaaGreatDoorEvB
import Derived.SevenTiedAt
import Derived.Test.YtkkbpknpongmfaaGreatDoorCards
namespace Go.Proofs.YtkkbpknpongmfaaGreatDoor
open Go Go.Abs Go.RowKit Go.ChangeShapes Go.WideShapes Go.Joins

theorem c25 : Tryz.prog.cellsOf 25 = 4 := by kernel_rfl
theorem c4 : Tryz.prog.cellsOf 4 = 1 := by kernel_rfl
theorem c22 : Tryz.prog.cellsOf 22 = 1 := by kernel_rfl
theorem c23 : Tryz.prog.cellsOf 23 = 1 := by kernel_rfl
theorem c9 : Tryz.prog.cellsOf 9 = 1 := by kernel_rfl

set_option maxRecDepth 100000 in
/-- What the argument is. -/
theorem act_in {H : Type} {enc : TypeId × Value → H} {W : World} {base : Nat} {v : Value} {d : DataW H} {p : List MemPlace} (hv : Value.okWide Tryz.prog W .any base 25 v) (h : DataW.Trod enc Tryz.prog W 0 (fun _ => true) true 25 v d p) :
    ∃ b m n s, v = .agg #[.bool b, .int .u16 m, .int .i64 n, s] ∧ (IntKind.u16.min ≤ m ∧ m ≤ IntKind.u16.max) ∧ (IntKind.i64.min ≤ n ∧ n ≤ IntKind.i64.max) ∧ SlIn (fun x => ∃ t : ByteArray, x = .string t ∧ t.size < 9223372036854775808) W s := by
  obtain ⟨cs, rfl, hsz⟩ := okWide_struct Tryz.underlying25 hv
  rw [c25] at hsz
  obtain ⟨c0, c1, c2, c3', rfl⟩ := array4 hsz
  obtain ⟨fuel, h⟩ := h
  obtain ⟨y0, y1, y2, y3, n, _, _, g0, g1, g2, g3⟩ := trod_struct4 Tryz.underlying25 h
  rw [show Tryz.prog.cellsOf _ = 1 from c4] at g0
  rw [show Tryz.prog.cellsOf _ = 1 from c22] at g1
  rw [show Tryz.prog.cellsOf _ = 1 from c3] at g2
  rw [show Tryz.prog.cellsOf _ = 1 from c23] at g3
  obtain ⟨b, e0, _⟩ := DataW.trod_bool Tryz.underlying4 g0
  obtain ⟨m, e1, _, w1⟩ := DataW.trod_int Tryz.underlying22 g1
  obtain ⟨k, e2, _, w2⟩ := DataW.trod_int Tryz.underlying3 g2
  obtain ⟨s, e3, hs⟩ := slice_in (R := fun x => ∃ t : ByteArray, x = .string t ∧ t.size < 9223372036854775808) Tryz.underlying23 c9 (fun n c x hx => by
    obtain ⟨t, ht, _, hl⟩ := DataW.trod_string Tryz.underlying9 hx
    have hm : maxLen = 9223372036854775807 := by decide
    exact ⟨t, by simpa using ht, by omega⟩) g3
  simp [Value.cells] at e0 e1 e2 e3
  subst e0 e1 e2 e3
  refine ⟨b, m, k, _, rfl, ?_, ?_, hs⟩
  · simpa [Lit.wf] using w1
  · simpa [Lit.wf] using w2

/-- The run, whatever the argument is. -/
theorem law_runs {W : World} (hc : ∀ b cs, (rowsOf varL)[b]? = some cs → CellsAt W b cs) {b : Bool} {m n : Int} {s : Value} (hm : IntKind.u16.min ≤ m ∧ m ≤ IntKind.u16.max) (hn : IntKind.i64.min ≤ n ∧ n ≤ IntKind.i64.max)
    (hs : SlIn (fun x => ∃ t : ByteArray, x = .string t ∧ t.size < 9223372036854775808) W s) :
    Calls Tryz.prog 3 #[.agg #[.bool b, .int .u16 m, .int .i64 n, s]] W fun e w' => e = .returned (.bool true) ∧ Below W.heap.size W w' := by
  have hact : ∀ (γ : Gam) (v : Value), VR γ v s → VRs γ [act v] (#[.agg #[.bool b, .int .u16 m, .int .i64 n, s]] : Array Value).toList := fun γ v h =>
    .cons (.agg (.cons .anyBool (.cons (.anyInt hm.1 hm.2) (.cons (.anyInt hn.1 hn.2) (.cons h .nil))))) .nil
  have hsc : ∀ (v : Value) (x : List (PT Value)), (low E ov 60).call 3 [act v] (hp x) yes = true → SC Tryz.prog 3 [act v] (hp x) (fun r h' => yes r h' = true) := fun v x e => (low_ok E_ok mixed ov_ok 60).call _ _ _ _ e
  have hlen : (rowsOf varL).length = 3 := rfl
  have hvars : ∀ (γ : Gam) (b : Nat) (cs : PT Value) (c d : Nat), (rowsOf varL)[b]? = some cs → [(0, 0), (1, 0), (2, 0)][b]? = some (c, d) → RowAt γ W c d cs := by
    intro γ b cs c d h1 h2
    have : c = b ∧ d = 0 := by
      match b, h2 with
      | 0, h2 => simpa using h2.symm
      | 1, h2 => simpa using h2.symm
      | 2, h2 => simpa using h2.symm
      | k + 3, h2 => simp at h2
    obtain ⟨rfl, rfl⟩ := this
    exact (hc c cs h1).rowAt γ
  have hpl : ∀ b : Nat, b < 3 → [(0, 0), (1, 0), (2, 0)][b]? = some (b, 0) := by decide
  rcases hs.as with rfl | ⟨a, rfl⟩ | ⟨c, o, k, cap, arr, el, fz, rfl, hk, hk2, hw, hx⟩
  · exact below_of_run (fun _ _ => yes_ret) (run_rows (pl := [(0, 0), (1, 0), (2, 0)]) (hsc _ _ ev_nil) (by rfl) hpl (fun b cs c d h1 h2 => hvars _ b cs c d (by simpa using h1) h2) (hact _ _ (.flat rfl)))
  · exact below_of_run (fun _ _ => yes_ret) (run_rows (pl := [(0, 0), (1, 0), (2, 0)]) (hsc _ _ ev_zero) (by rfl) hpl (fun b cs c d h1 h2 => hvars _ b cs c d (by simpa using h1) h2) (hact _ _ .slice0))
  · by_cases hlong : 45 < k
    · exact below_of_run (fun _ _ => yes_ret) (run_rows (pl := [(0, 0), (1, 0), (2, 0)]) (hsc _ _ ev_long) (by rfl) hpl (fun b cs c d h1 h2 => hvars _ b cs c d (by simpa using h1) h2) (hact _ _ (.anySl hlong hk2)))
    · refine below_of_run (fun _ _ => yes_ret) (run_rows (pl := [(0, 0), (1, 0), (2, 0), (c, o)]) (hsc _ _ (ev_some k (by omega))) (by rfl) ?_ ?_ (hact _ _ ?_))
      · intro b hb
        match b, hb with
        | 0, _ => rfl
        | 1, _ => rfl
        | 2, _ => rfl
      · intro b cs c' d h1 h2
        by_cases hb : b < 3
        · refine hvars _ b cs c' d ?_ ?_
          · rwa [List.getElem?_append_left (by rw [hlen]; exact hb)] at h1
          · match b, hb, h2 with
            | 0, _, h2 => exact h2
            | 1, _, h2 => exact h2
            | 2, _, h2 => exact h2
        · have hb3 : b = 3 := by
            have := (List.getElem?_eq_some_iff.1 h2).1
            simp at this
            omega
          subst hb3
          have e1 : cs = PT.leaf.puts 0 (repT topStr k) := by simpa [rowsOf, varL] using h1.symm
          have e2 : c' = c ∧ d = o := by simpa [eq_comm] using h2
          obtain ⟨rfl, rfl⟩ := e2
          subst e1
          exact rowAt_rep (R := fun x => ∃ t : ByteArray, x = .string t ∧ t.size < 9223372036854775808) (fun v ⟨t, hv, ht⟩ => by subst hv; exact .anyStr ht) hw hx
      · have hoff : VR (gamR [(0, 0), (1, 0), (2, 0), (c, o)]) (.slice (some ⟨3, 0, none⟩) k (2 * k + 1)) (.slice (some ⟨c, 0 + o, none⟩) k cap) :=
          .slice (by rfl) ((capR_odd (by omega)).2 hk) hk
        rwa [Nat.zero_add] at hoff

theorem door_met (os : Os) (args : Array Value) : laidMetH Tryz.prog Rows.sessNobodyRow.laid ((World.doorLaid Tryz.prog 77 os).forCall (fun _ _ => 0) ⟨#[], args, []⟩).memory :=
  laidMetH_of_parts3 (fuel := 8) (laidMet_of_run' 8 (by kernel_rfl) (by kernel_rfl)) (by kernel_rfl) (by kernel_rfl)

theorem params_ok : ∀ t ∈ Tryz.f3.params.toList, Tryz.prog.readableRec t = true ∧ t < Tryz.prog.types.size := by
  rw [Tryz.params3]
  intro t ht
  have : t = 25 := by simpa using ht
  subst this
  exact ⟨by kernel_rfl, of_decide_eq_true (by kernel_rfl)⟩

set_option maxRecDepth 100000 in
theorem law_lifted (os : Os) (started : os.Started) (H : Type) (enc : TypeId × Value → H) :
    ReturnsInHanded {} Tryz.checked os 3 .any (fun w args => (Rows.sessNobodySpec.pre enc Tryz.prog Tryz.f3 [] false w args ∧ laidMetH Tryz.prog Rows.sessNobodyRow.laid w) ∧ sizedMet enc Tryz.prog Tryz.f3 (OpenSpec.ofChange Rows.sessNobodySpec) false w args)
      (Rows.sessNobodySpec.post enc Tryz.prog Tryz.f3 false true false false) := by
  refine returnsInHanded_of_change_and (C := Tryz.checked) (X := fun w _ => laidMetH Tryz.prog Rows.sessNobodyRow.laid w) (fun _ _ _ hh h => h.of_heap hh) own started (by kernel_rfl) Tryz.func3
    (ChangeSpec.witness_shaped (enc := enc) (C := Tryz.checked) (os := os) (X := fun w _ => laidMetH Tryz.prog Rows.sessNobodyRow.laid w) false (World.doorLaid Tryz.prog 77 os) #[.agg #[.bool false, .int .u16 0, .int .i64 0, .slice none 0 0]] 8 rfl (World.shaped_of_RefB (by kernel_rfl) (by kernel_rfl)) (by kernel_rfl) (by kernel_rfl) (by kernel_rfl) (door_met os _)) ?_
  intro W base args ds gs before hval0 hW _ _ hL _
  have hval : ∀ (j : Nat) t v, Tryz.f3.params[j]? = some t → args[j]? = some v → Value.okWide Tryz.prog W .any base t v := hval0
  have hW' := hW
  obtain ⟨p, q, hA0, hV, rfl, hfz, hnd⟩ := hW
  have hA : DataW.TrodAll enc Tryz.prog W 0 (fun _ => true) true Tryz.f3.params.toList args.toList ds p := hA0
  rw [Tryz.params3] at hA hval
  obtain ⟨v0, d0, rfl, rfl, h0⟩ := trodAll_one hA
  obtain ⟨rfl, rfl⟩ := trodVars_none hV
  obtain ⟨b, m, n, s, rfl, hm, hn, hs⟩ := act_in (hval 0 25 v0 rfl rfl) h0
  refine (law_runs (vars_at hL) hm hn hs).mono fun e W' ⟨he, hb⟩ => ?_
  subst he
  exact ⟨_, rfl, law_post laidOut (show Tryz.f3.resultTypes = #[4] from rfl) Tryz.underlying4 params_ok rfl rfl hW' hb⟩

theorem sessNobody_said : Rows.SessNobodySaid :=
  OpenClaim.holds_of_wide 3 Tryz.f3 rfl rfl rfl rfl rfl rfl rfl ⟨rfl, rfl, rfl, rfl, rfl⟩ rfl rfl rfl rfl rfl (by kernel_rfl) Tryz.func3 (by kernel_rfl)
    (of_decide_eq_true (by kernel_rfl)) (by unfold Func.isWrapper; first | (rw [if_pos (by decide +kernel)]; kernel_rfl) | (rw [if_neg (by decide +kernel)]; exact ⟨rfl, rfl⟩))
    (fun os started H enc _ => law_lifted os started H enc)

theorem sessNobody_holds : Rows.SessNobodyCardSaid :=
  Claim7.holds_tied_plain_at .later [] [.data, .data, .data, .sentinel, .sentinel, .data, .data, .data] true (true, "b4aaae90000a2dc7b2e5b167117bafebc6a64b700b927170a0194be6d03120d8") true
    sessNobody_said (fun _ h => by cases h) (by kernel_rfl) (fun _ h => by cases h) sessNobody_row_tie rfl ⟨rfl, rfl⟩ (by kernel_rfl) rfl
    (fun f fn hf hfn => by
      obtain rfl : f = 3 := Option.some.inj ((show Tryz.prog.funcNamed "intaglio/intagliolaw24.SessNobody" = some 3 by kernel_rfl).symm.trans hf) |>.symm
      obtain rfl : fn = Tryz.f3 := (Option.some.inj (Tryz.func3.symm.trans hfn)).symm
      exact ⟨by kernel_rfl, fun j t ht => by
        rw [Tryz.params3] at ht
        have hm : t ∈ [25] := by simpa using Array.mem_of_getElem? ht
        have hall : ([25].all fun u => !Tryz.prog.wantsStandIn u) = true := by kernel_rfl
        exact (show Tryz.prog.wantsStandIn t = false by simpa using List.all_eq_true.1 hall t hm)⟩)
    (by kernel_rfl)
#print axioms sessNobody_holds
end Go.Proofs.YtkkbpknpongmfaaGreatDoor
