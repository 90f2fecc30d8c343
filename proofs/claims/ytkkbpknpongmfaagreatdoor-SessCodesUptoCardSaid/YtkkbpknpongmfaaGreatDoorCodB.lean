/- The plain law of SessCodes: what is put is read again; what is read was put so. -/
import Derived.Test.YtkkbpknpongmfaaGreatDoorCodA
namespace Go.Proofs.YtkkbpknpongmfaaGreatDoor
open Go Go.Abs Classical
noncomputable section
abbrev Ws := List (List UInt8)
abbrev St2 := List UInt8 × Int
/-- A number's bytes. -/
def bts : Nat → Nat → List UInt8
  | 0, _ => []
  | k + 1, n => UInt8.ofNat (n / 256 ^ k) :: bts k n
theorem bts_len : ∀ k n, (bts k n).length = k
  | 0, _ => rfl
  | k + 1, n => by simp [bts, bts_len k n]
theorem fold_bts : ∀ (k n v : Nat), (bts k n).foldl (fun v c => 256 * v + c.toNat) v = v * 256 ^ k + n % 256 ^ k
  | 0, n, v => by simp [bts, Nat.mod_one]
  | k + 1, n, v => by
    rw [bts, List.foldl_cons, fold_bts k n]
    have h1 : (UInt8.ofNat (n / 256 ^ k)).toNat = n / 256 ^ k % 256 := by simp
    rw [h1, Nat.pow_succ, Nat.mod_mul, Nat.add_mul, Nat.mul_comm 256 v, Nat.mul_assoc, Nat.mul_comm (256 ^ k) 256]
    have : (n / 256 ^ k % 256) * 256 ^ k = 256 ^ k * (n / 256 ^ k % 256) := Nat.mul_comm _ _
    omega
theorem beVal_bts {k n : Nat} (h : n < 256 ^ k) : beVal (bts k n) = n := by
  unfold beVal; rw [fold_bts, Nat.zero_mul, Nat.zero_add, Nat.mod_eq_of_lt h]
theorem bts_foldl : ∀ (l : List UInt8) (v : Nat), bts l.length (l.foldl (fun v c => 256 * v + c.toNat) v) = l
  | [], _ => rfl
  | c :: l, v => by
    rw [List.foldl_cons, List.length_cons, bts]
    congr 1
    · have h1 : ∀ (l : List UInt8) (w : Nat), l.foldl (fun v c => 256 * v + c.toNat) w / 256 ^ l.length = w := by
        intro l
        induction l with
        | nil => intro w; simp
        | cons d l ih =>
          intro w
          rw [List.foldl_cons, List.length_cons, Nat.pow_succ, ← Nat.div_div_eq_div_mul, ih]
          have := d.toNat_lt
          omega
      rw [h1]
      have := c.toNat_lt
      apply UInt8.toNat.inj
      simp
    · exact bts_foldl l _
theorem bts_beVal (l : List UInt8) : bts l.length (beVal l) = l := bts_foldl l 0

def eW (w : List UInt8) : List UInt8 := bts 4 w.length ++ w
def eWs (c : Ws) : List UInt8 := (c.map eW).flatten
def eC (c : Ws) : List UInt8 := bts 8 c.length ++ eWs c
def eCs (cs : List Ws) : List UInt8 := (cs.map eC).flatten
def eG (N D : Nat) (cs : List Ws) : List UInt8 := bts 8 N ++ bts 8 D ++ bts 8 cs.length ++ eCs cs

/-! What is put is read. -/
theorem nxt_put {k : Nat} {a r : List UInt8} (h : a.length = k) : nxt k (a ++ r, 0) = (some a, (r, 0)) := by
  unfold nxt
  simp only [List.length_append, if_true]
  rw [if_pos (by omega)]
  subst h; simp
theorem rdU_put {k n : Nat} {r : List UInt8} (h : n < 256 ^ k) : rdU k (bts k n ++ r, 0) = (n, (r, 0)) := by
  unfold rdU; rw [nxt_put (bts_len k n)]; simp only [beVal_bts h]
theorem rdNum_put {mx n : Nat} {r : List UInt8} (h : n < 18446744073709551616) : rdNum mx (bts 8 n ++ r, 0) = if n ≤ mx then (n, (r, 0)) else (0, ([], 5)) := by
  unfold rdNum; rw [rdU_put (by exact h)]; simp
theorem rdBy_put {mx : Nat} {w r : List UInt8} (h : w.length < 4294967296) : rdBy mx (eW w ++ r, 0) = if w.length ≤ mx then (w, (r, 0)) else ([], ([], 5)) := by
  unfold rdBy eW
  rw [List.append_assoc, rdU_put (by exact h)]
  simp only [if_true]
  split
  · rw [nxt_put rfl]
  · rfl
/-! An error stays. -/
theorem nxt_bad {k : Nat} {s : St2} (h : s.2 ≠ 0) : nxt k s = (none, ([], s.2)) := by unfold nxt; rw [if_neg h]
theorem rdU_bad {k : Nat} {s : St2} (h : s.2 ≠ 0) : rdU k s = (0, ([], s.2)) := by unfold rdU; rw [nxt_bad h]
theorem rdNum_bad {mx : Nat} {s : St2} (h : s.2 ≠ 0) : rdNum mx s = (0, ([], s.2)) := by unfold rdNum; rw [rdU_bad h]; simp [h]
theorem rdBy_bad {mx : Nat} {s : St2} (h : s.2 ≠ 0) : rdBy mx s = ([], ([], s.2)) := by unfold rdBy; rw [rdU_bad h]; simp [h]
theorem argsN_bad {n : Nat} {s : St2} (h : s.2 ≠ 0) : (argsN n s).2.2 = s.2 := by
  induction n with
  | zero => rfl
  | succ n ih => simp only [argsN]; rw [rdBy_bad (by rw [ih]; exact h)]; exact ih
theorem argsN_bad_le {i n : Nat} (hi : i ≤ n) {s : St2} (h : (argsN i s).2.2 ≠ 0) : (argsN n s).2.2 ≠ 0 := by
  induction n with
  | zero => obtain rfl : i = 0 := by omega
            exact h
  | succ n ih =>
    rcases Nat.lt_or_ge n i with h1 | h1
    · obtain rfl : i = n + 1 := by omega
      exact h
    · simp only [argsN]; rw [rdBy_bad (ih h1)]; exact ih h1
/-- Words that may be. -/
def wOk (c : Ws) : Prop := ∀ w ∈ c, w.length ≤ 512
def wLt (c : Ws) : Prop := ∀ w ∈ c, w.length < 4294967296
theorem eWs_cons (w : List UInt8) (c : Ws) : eWs (w :: c) = eW w ++ eWs c := rfl
theorem eCs_cons (c : Ws) (cs : List Ws) : eCs (c :: cs) = eC c ++ eCs cs := rfl
theorem eWs_append (a b : Ws) : eWs (a ++ b) = eWs a ++ eWs b := by simp [eWs]
theorem eCs_append (a b : List Ws) : eCs (a ++ b) = eCs a ++ eCs b := by simp [eCs]
theorem argsN_put {c : Ws} {r : List UInt8} (hl : wLt c) : ∀ (i : Nat), i ≤ c.length → if wOk (c.take i) then argsN i (eWs c ++ r, 0) = (c.take i, (eWs (c.drop i) ++ r, 0)) else (argsN i (eWs c ++ r, 0)).2.2 ≠ 0
  | 0, _ => by rw [if_pos (by intro w hw; simp at hw)]; simp [argsN]
  | i + 1, hi => by
    have ih := argsN_put (r := r) hl i (by omega)
    have hd : c.drop i = c[i] :: c.drop (i + 1) := List.drop_eq_getElem_cons (by omega)
    have ht : c.take (i + 1) = c.take i ++ [c[i]] := by rw [List.take_add_one, List.getElem?_eq_getElem (by omega)]; rfl
    have hw : (c[i]).length < 4294967296 := hl _ (List.getElem_mem _)
    by_cases h1 : wOk (c.take i)
    · rw [if_pos h1] at ih
      have he : rdBy 512 (argsN i (eWs c ++ r, 0)).2 = if (c[i]).length ≤ 512 then (c[i], (eWs (c.drop (i + 1)) ++ r, 0)) else ([], ([], 5)) := by
        rw [ih, hd, eWs_cons, List.append_assoc, rdBy_put hw]
      by_cases h2 : (c[i]).length ≤ 512
      · rw [if_pos (by
          intro w hw'
          rw [ht, List.mem_append] at hw'
          rcases hw' with hw' | hw'
          · exact h1 w hw'
          · simp at hw'; subst hw'; exact h2)]
        simp only [argsN]
        rw [he, if_pos h2, ih, ht]
      · rw [if_neg (by
          intro hh
          exact h2 (hh _ (by rw [ht]; exact List.mem_append_right _ (List.mem_singleton.2 rfl))))]
        simp only [argsN]
        rw [he, if_neg h2]; decide
    · rw [if_neg h1] at ih
      rw [if_neg (by
        intro hh
        exact h1 fun w hw' => hh w (by rw [ht]; exact List.mem_append_left _ hw'))]
      simp only [argsN]
      rw [rdBy_bad ih]; exact ih
/-- Commands that may be. -/
def cOk (c : Ws) : Prop := 1 ≤ c.length ∧ c.length ≤ 40 ∧ wOk c
def cLt (c : Ws) : Prop := c.length < 18446744073709551616 ∧ wLt c
theorem cmdsN_put {cs : List Ws} {r : List UInt8} (hl : ∀ c ∈ cs, cLt c) : ∀ (i : Nat), i ≤ cs.length → cmdsN i (eCs cs ++ r, 0) = if ∀ c ∈ cs.take i, cOk c then some (cs.take i, (eCs (cs.drop i) ++ r, 0)) else none
  | 0, _ => by rw [if_pos (by intro w hw; simp at hw)]; simp [cmdsN]
  | i + 1, hi => by
    have ih := cmdsN_put (r := r) hl i (by omega)
    have hd : cs.drop i = cs[i] :: cs.drop (i + 1) := List.drop_eq_getElem_cons (by omega)
    have ht : cs.take (i + 1) = cs.take i ++ [cs[i]] := by rw [List.take_add_one, List.getElem?_eq_getElem (by omega)]; rfl
    obtain ⟨hc1, hc2⟩ := hl cs[i] (List.getElem_mem _)
    unfold cmdsN
    rw [ih]
    by_cases h1 : ∀ c ∈ cs.take i, cOk c
    · rw [if_pos h1]
      have he : rdNum 40 (eCs (cs.drop i) ++ r, 0) = if (cs[i]).length ≤ 40 then ((cs[i]).length, (eWs cs[i] ++ (eCs (cs.drop (i + 1)) ++ r), 0)) else (0, ([], 5)) := by
        rw [hd, eCs_cons, eC, List.append_assoc, List.append_assoc, rdNum_put hc1]
      have hall : cOk cs[i] ↔ ∀ c ∈ cs.take (i + 1), cOk c := by
        rw [ht]
        constructor
        · intro h c hc
          rcases List.mem_append.1 hc with hc | hc
          · exact h1 c hc
          · simp at hc; subst hc; exact h
        · intro h; exact h _ (List.mem_append_right _ (List.mem_singleton.2 rfl))
      simp only [he]
      by_cases h2 : (cs[i]).length ≤ 40
      · simp only [if_pos h2]
        have ha := argsN_put (r := eCs (cs.drop (i + 1)) ++ r) hc2 (cs[i]).length (Nat.le_refl _)
        rw [List.take_length] at ha
        by_cases h3 : wOk cs[i]
        · rw [if_pos h3] at ha
          rw [ha]
          by_cases h4 : (cs[i]).length = 0
          · rw [if_pos (.inl h4), if_neg]
            rw [← hall]
            intro h; have := h.1; omega
          · rw [if_neg (by simp [h4]), if_pos (hall.1 ⟨by omega, h2, h3⟩)]
            simp only [ht, List.drop_length, eWs, List.map_nil, List.flatten_nil, List.nil_append]
        · rw [if_neg h3] at ha
          rw [if_pos (.inr ha), if_neg]
          rw [← hall]
          intro h; exact h3 h.2.2
      · simp only [if_neg h2]
        rw [if_pos (.inl trivial), if_neg]
        rw [← hall]
        intro h; exact h2 h.2.1
    · rw [if_neg h1]
      simp only
      rw [if_neg]
      intro h
      exact h1 fun c hc => h c (by rw [ht]; exact List.mem_append_left _ hc)

/-! What is read was put so. -/
theorem nxt_inv {k : Nat} {s s' : St2} {l : List UInt8} (e : nxt k s = (some l, s')) : s = (l ++ s'.1, 0) ∧ s'.2 = 0 ∧ l.length = k := by
  have hl := nxt_len e
  unfold nxt at e
  split at e
  · rename_i h0
    split at e
    · simp only [Prod.mk.injEq, Option.some.injEq] at e
      obtain ⟨rfl, rfl⟩ := e
      refine ⟨?_, rfl, hl⟩
      obtain ⟨a, b⟩ := s
      simp only at h0
      subst h0; simp
    · cases e
  · cases e
theorem rdU_inv {k : Nat} {s : St2} (h : (rdU k s).2.2 = 0) : s = (bts k (rdU k s).1 ++ (rdU k s).2.1, 0) := by
  unfold rdU at h ⊢
  split
  · rename_i l s' e
    obtain ⟨h1, h2, h3⟩ := nxt_inv e
    rw [h1]
    simp only
    rw [← h3, bts_beVal]
  · rename_i s' e
    rw [e] at h
    simp only at h
    unfold nxt at e
    split at e
    · split at e
      · cases e
      · simp only [Prod.mk.injEq] at e; rw [← e.2] at h; cases h
    · rename_i h0; simp only [Prod.mk.injEq] at e; rw [← e.2] at h; exact absurd h h0
theorem rdNum_inv {mx : Nat} {s : St2} (h : (rdNum mx s).2.2 = 0) : s = (bts 8 (rdNum mx s).1 ++ (rdNum mx s).2.1, 0) := by
  unfold rdNum at h ⊢
  by_cases h0 : (rdU 8 s).2.2 = 0
  · rw [if_pos h0] at h ⊢
    by_cases h1 : (rdU 8 s).1 ≤ mx
    · rw [if_pos h1] at h ⊢; exact rdU_inv h
    · rw [if_neg h1] at h; cases h
  · rw [if_neg h0] at h; exact absurd h h0
theorem rdBy_inv {mx : Nat} {s : St2} (h : (rdBy mx s).2.2 = 0) : s = (eW (rdBy mx s).1 ++ (rdBy mx s).2.1, 0) ∧ (rdBy mx s).1.length ≤ mx := by
  unfold rdBy at h ⊢
  by_cases h0 : (rdU 4 s).2.2 = 0
  · rw [if_pos h0] at h ⊢
    by_cases h1 : (rdU 4 s).1 ≤ mx
    · rw [if_pos h1] at h ⊢
      have hs := rdU_inv h0
      split
      · rename_i l s' e
        obtain ⟨h2, h3, h4⟩ := nxt_inv e
        rw [h2] at hs
        refine ⟨?_, by show l.length ≤ mx; omega⟩
        rw [hs]
        simp only [eW]
        rw [h4, List.append_assoc]
      · rename_i s' e
        rw [e] at h
        simp only at h
        unfold nxt at e
        rw [if_pos h0] at e
        split at e
        · cases e
        · simp only [Prod.mk.injEq] at e; rw [← e.2] at h; cases h
    · rw [if_neg h1] at h; cases h
  · rw [if_neg h0] at h; exact absurd h h0
theorem argsN_inv : ∀ {n : Nat} {s : St2}, (argsN n s).2.2 = 0 → s = (eWs (argsN n s).1 ++ (argsN n s).2.1, 0) ∧ wOk (argsN n s).1
  | 0, s, h => ⟨by
      obtain ⟨a, b⟩ := s
      have h : b = 0 := h
      subst h; simp [argsN, eWs], by intro w hw; simp [argsN] at hw⟩
  | n + 1, s, h => by
    simp only [argsN] at h ⊢
    obtain ⟨h1, h2⟩ := rdBy_inv h
    have h0 : (argsN n s).2.2 = 0 := by rw [h1]
    obtain ⟨h3, h4⟩ := argsN_inv h0
    refine ⟨?_, ?_⟩
    · rw [eWs_append, List.append_assoc]
      have : eWs [(rdBy 512 (argsN n s).2).1] ++ (rdBy 512 (argsN n s).2).2.1 = (argsN n s).2.1 := by
        conv => rhs; rw [h1]
        simp [eWs]
      rw [this]; exact h3
    · intro w hw
      rcases List.mem_append.1 hw with hw | hw
      · exact h4 w hw
      · simp at hw; subst hw; exact h2
theorem cmdsN_inv : ∀ {n : Nat} {s s' : St2} {cs : List Ws}, cmdsN n s = some (cs, s') → s'.2 = 0 → s = (eCs cs ++ s'.1, 0) ∧ ∀ c ∈ cs, cOk c
  | 0, s, s', cs, e, h => by
    simp only [cmdsN, Option.some.injEq, Prod.mk.injEq] at e
    obtain ⟨rfl, rfl⟩ := e
    refine ⟨?_, by simp⟩
    obtain ⟨a, b⟩ := s
    have h : b = 0 := h
    subst h; simp [eCs]
  | n + 1, s, s', cs, e, h => by
    unfold cmdsN at e
    split at e
    · cases e
    · rename_i cs0 s0 e0
      split at e
      · cases e
      · rename_i hc
        have hc1 : ¬ (rdNum 40 s0).1 = 0 := fun h => hc (.inl h)
        simp only [Option.some.injEq, Prod.mk.injEq] at e
        obtain ⟨rfl, rfl⟩ := e
        obtain ⟨h1, h2⟩ := argsN_inv h
        have h3 : (rdNum 40 s0).2.2 = 0 := by rw [h1]
        have h4 := rdNum_inv h3
        have h0 : s0.2 = 0 := by rw [h4]
        obtain ⟨h5, h6⟩ := cmdsN_inv e0 h0
        have hlen := argsN_len (rdNum 40 s0).1 (rdNum 40 s0).2
        refine ⟨?_, ?_⟩
        · rw [eCs_append, List.append_assoc]
          have : eCs [(argsN (rdNum 40 s0).1 (rdNum 40 s0).2).1] ++ (argsN (rdNum 40 s0).1 (rdNum 40 s0).2).2.1 = s0.1 := by
            conv => rhs; rw [h4]
            simp only [eCs, List.map_cons, List.map_nil, List.flatten_cons, List.flatten_nil, List.append_nil, eC, hlen, List.append_assoc]
            congr 1
            conv => rhs; rw [h1]
          rw [this]; exact h5
        · intro c hc
          rcases List.mem_append.1 hc with hc | hc
          · exact h6 c hc
          · simp at hc; subst hc
            exact ⟨by rw [hlen]; omega, by rw [hlen]; exact rdNum_le _ _, h2⟩

/-! The program's reading, and the document's. -/
abbrev G3 := Nat × Nat × List Ws
def maxNum : Nat := 1099511627776
def rdA (b : List UInt8) : Nat × St2 := rdNum maxNum (b, 0)
def rdD (b : List UInt8) : Nat × St2 := rdU 8 (rdA b).2
def rdN (b : List UInt8) : Nat × St2 := rdNum 21 (rdD b).2
def dec (b : List UInt8) : Option G3 := match cmdsN (rdN b).1 (rdN b).2 with
  | none => none
  | some (cs, s') => if s'.2 = 0 ∧ s'.1 = [] ∧ cs ≠ [] then some ((rdA b).1, (rdD b).1, cs) else none
def mayN (N : Int) (cs : List Ws) : Prop := 0 ≤ N ∧ N ≤ (maxNum : Int) ∧ 1 ≤ cs.length ∧ cs.length ≤ 21 ∧ ∀ c ∈ cs, cOk c
def rc : Nat → St2 → List Ws × St2
  | 0, s => ([], s)
  | n + 1, s => ((rc n s).1 ++ [(argsN (rdNum 40 (rc n s).2).1 (rdNum 40 (rc n s).2).2).1], (argsN (rdNum 40 (rc n s).2).1 (rdNum 40 (rc n s).2).2).2)
theorem rc_len : ∀ (n : Nat) (s : St2), (rc n s).1.length = n
  | 0, _ => rfl
  | n + 1, s => by simp [rc, rc_len n s]
theorem rc_bad {i n : Nat} (hi : i ≤ n) {s : St2} (h : (rc i s).2.2 ≠ 0) : (rc n s).2.2 ≠ 0 := by
  induction n with
  | zero => obtain rfl : i = 0 := by omega
            exact h
  | succ n ih =>
    rcases Nat.lt_or_ge n i with h1 | h1
    · obtain rfl : i = n + 1 := by omega
      exact h
    · have := ih h1
      simp only [rc]
      rw [rdNum_bad this]
      exact this
theorem rc_of_cmdsN : ∀ {n : Nat} {s s' : St2} {cs : List Ws}, cmdsN n s = some (cs, s') → rc n s = (cs, s')
  | 0, s, s', cs, e => by simp only [cmdsN, Option.some.injEq, Prod.mk.injEq] at e; obtain ⟨rfl, rfl⟩ := e; rfl
  | n + 1, s, s', cs, e => by
    unfold cmdsN at e
    split at e
    · cases e
    · rename_i cs0 s0 e0
      split at e
      · cases e
      · simp only [Option.some.injEq, Prod.mk.injEq] at e
        obtain ⟨rfl, rfl⟩ := e
        simp only [rc]; rw [rc_of_cmdsN e0]
def rdec (b : List UInt8) : Option G3 :=
  if (rc (rdN b).1 (rdN b).2).2.2 = 0 ∧ mayN (rdA b).1 (rc (rdN b).1 (rdN b).2).1 ∧ eG (rdA b).1 (rdD b).1 (rc (rdN b).1 (rdN b).2).1 = b then some ((rdA b).1, (rdD b).1, (rc (rdN b).1 (rdN b).2).1) else none

theorem dec_put {N D : Nat} {cs : List Ws} (hN : N < 18446744073709551616) (hD : D < 18446744073709551616) (hn : cs.length < 18446744073709551616) (hl : ∀ c ∈ cs, cLt c) : dec (eG N D cs) = if mayN N cs then some (N, D, cs) else none := by
  have ha : rdA (eG N D cs) = if N ≤ maxNum then (N, (bts 8 D ++ (bts 8 cs.length ++ eCs cs), 0)) else (0, ([], 5)) := by
    unfold rdA eG; rw [List.append_assoc, List.append_assoc]; exact rdNum_put hN
  by_cases h1 : N ≤ maxNum
  · rw [if_pos h1] at ha
    have hd : rdD (eG N D cs) = (D, (bts 8 cs.length ++ eCs cs, 0)) := by unfold rdD; rw [ha]; exact rdU_put hD
    have hc : rdN (eG N D cs) = if cs.length ≤ 21 then (cs.length, (eCs cs, 0)) else (0, ([], 5)) := by unfold rdN; rw [hd]; exact rdNum_put hn
    unfold dec
    by_cases h2 : cs.length ≤ 21
    · rw [if_pos h2] at hc
      have hp := cmdsN_put (r := []) hl cs.length (Nat.le_refl _)
      rw [List.append_nil, List.take_length, List.drop_length] at hp
      rw [hc]
      simp only [hp]
      by_cases h3 : ∀ c ∈ cs, cOk c
      · rw [if_pos h3]
        simp only [eCs, List.map_nil, List.flatten_nil, List.append_nil, true_and, ha, hd]
        by_cases h4 : cs = []
        · rw [if_neg (by simp [h4]), if_neg]
          intro h; have := h.2.2.1; rw [h4] at this; simp at this
        · rw [if_pos h4, if_pos ⟨Int.natCast_nonneg N, by omega, List.length_pos_iff.2 h4, h2, h3⟩]
      · rw [if_neg h3, if_neg]
        intro h; exact h3 h.2.2.2.2
    · rw [if_neg h2] at hc
      rw [hc]
      simp only [cmdsN]
      rw [if_neg (by simp), if_neg]
      intro h; exact h2 h.2.2.2.1
  · rw [if_neg h1] at ha
    have hd : rdD (eG N D cs) = (0, ([], 5)) := by unfold rdD; rw [ha]; exact rdU_bad (by decide)
    have hc : rdN (eG N D cs) = (0, ([], 5)) := by unfold rdN; rw [hd]; exact rdNum_bad (by decide)
    unfold dec
    rw [hc]
    simp only [cmdsN]
    rw [if_neg (by simp), if_neg]
    intro h; have := h.2.1; omega
theorem dec_inv {b : List UInt8} {g : G3} (e : dec b = some g) : rdec b = some g ∧ eG g.1 g.2.1 g.2.2 = b ∧ mayN g.1 g.2.2 := by
  unfold dec at e
  split at e
  · cases e
  · rename_i cs s' e0
    split at e
    · rename_i hc
      obtain ⟨h1, h2, h3⟩ := hc
      simp only [Option.some.injEq] at e; subst e
      obtain ⟨h4, h5⟩ := cmdsN_inv e0 h1
      rw [h2, List.append_nil] at h4
      have hn0 : (rdN b).2.2 = 0 := by rw [h4]
      have hn := rdNum_inv hn0
      have hd0 : (rdD b).2.2 = 0 := by rw [hn]
      have hd := rdU_inv hd0
      have ha0 : (rdA b).2.2 = 0 := by rw [hd]
      have ha := rdNum_inv ha0
      have hlen := cmdsN_len _ _ _ _ e0
      have hb : eG (rdA b).1 (rdD b).1 cs = b := by
        have e1 : b = bts 8 (rdA b).1 ++ (rdA b).2.1 := congrArg Prod.fst ha
        have e2 : (rdA b).2.1 = bts 8 (rdD b).1 ++ (rdD b).2.1 := congrArg Prod.fst hd
        have e3 : (rdD b).2.1 = bts 8 (rdN b).1 ++ (rdN b).2.1 := congrArg Prod.fst hn
        have e4 : (rdN b).2.1 = eCs cs := congrArg Prod.fst h4
        conv => rhs; rw [e1, e2, e3, e4]
        unfold eG
        rw [hlen]; simp only [List.append_assoc]
      have hm : mayN (rdA b).1 cs := ⟨Int.natCast_nonneg _, by have := rdNum_le maxNum (b, 0); show ((rdNum maxNum (b, 0)).1 : Int) ≤ _; omega, List.length_pos_iff.2 h3, by rw [hlen]; exact rdNum_le _ _, h5⟩
      refine ⟨?_, hb, hm⟩
      unfold rdec
      rw [rc_of_cmdsN e0]
      rw [if_pos ⟨h1, hm, hb⟩]
    · cases e
theorem dec_rdec (b : List UInt8) (hb : b.length < 4294967296) : dec b = rdec b := by
  cases e : dec b with
  | some g => rw [(dec_inv e).1]
  | none =>
    cases e2 : rdec b with
    | none => rfl
    | some g =>
      exfalso
      unfold rdec at e2
      split at e2
      · rename_i hc
        obtain ⟨h1, h2, h3⟩ := hc
        have h4 := h2.2.2.2.2
        have hA : (rdA b).1 < 18446744073709551616 := by have := rdNum_le maxNum (b, 0); show (rdNum maxNum (b, 0)).1 < _; unfold maxNum at this ⊢; omega
        have hD : (rdD b).1 < 18446744073709551616 := rdU_lt 8 _
        have := dec_put (N := (rdA b).1) (D := (rdD b).1) (cs := (rc (rdN b).1 (rdN b).2).1) hA hD (by have := h2.2.2.2.1; omega) (fun c hc => ⟨by have := (h4 c hc).2.1; omega, fun w hw => by have := (h4 c hc).2.2 w hw; omega⟩)
        rw [if_pos h2, h3, e] at this
        cases this
      · cases e2
end
end Go.Proofs.YtkkbpknpongmfaaGreatDoor

/- sess.Decode itself; groups that are only read. -/
namespace Go.Proofs.YtkkbpknpongmfaaGreatDoor
open Go Go.Abs Classical
noncomputable section
/-! Groups that are only read: all below a number. -/
inductive LL (B : Nat) (h : AHeap) : List Value → List Ws → Prop
  | nil : LL B h [] []
  | cons {v : Value} {c : Ws} {lv : List Value} {cs : List Ws} : Sl B h v (c.map str) → oneCell v = true → LL B h lv cs → LL B h (v :: lv) (c :: cs)
theorem LL.keep {B B' : Nat} {h h' : AHeap} {lv : List Value} {cs : List Ws} (s : LL B h lv cs) (k : Keep B h h') (hb : B ≤ B') : LL B' h' lv cs := by
  induction s with
  | nil => exact .nil
  | cons h1 h2 _ ih => exact .cons (h1.keep k hb) h2 ih
theorem LL.len {B : Nat} {h : AHeap} {lv : List Value} {cs : List Ws} (s : LL B h lv cs) : lv.length = cs.length := by
  induction s with
  | nil => rfl
  | cons _ _ _ ih => simp [ih]
theorem LL.at {B : Nat} {h : AHeap} {lv : List Value} {cs : List Ws} (s : LL B h lv cs) : ∀ (i : Nat) (hi : i < cs.length) (hi' : i < lv.length), Sl B h lv[i] ((cs[i]).map str) ∧ oneCell lv[i] = true := by
  induction s with
  | nil => intro i hi; simp at hi
  | cons h1 h2 _ ih =>
    intro i hi hi'
    cases i with
    | zero => exact ⟨h1, h2⟩
    | succ i => exact ih i (by simpa using hi) (by simpa using hi')
theorem LL.snoc {B : Nat} {h : AHeap} {lv : List Value} {cs : List Ws} (s : LL B h lv cs) {v : Value} {c : Ws} (h1 : Sl B h v (c.map str)) (h2 : oneCell v = true) : LL B h (lv ++ [v]) (cs ++ [c]) := by
  induction s with
  | nil => exact .cons h1 h2 .nil
  | cons g1 g2 _ ih => exact .cons g1 g2 ih
structure SlG (B : Nat) (h : AHeap) (cv : Value) (cs : List Ws) : Prop where
  ex : ∃ lv, Sl B h cv lv ∧ LL B h lv cs
theorem SlG.keep {B B' : Nat} {h h' : AHeap} {cv : Value} {cs : List Ws} (s : SlG B h cv cs) (k : Keep B h h') (hb : B ≤ B') : SlG B' h' cv cs := by
  obtain ⟨lv, h1, h2⟩ := s.ex
  exact ⟨lv, h1.keep k hb, h2.keep k hb⟩
theorem SlG.mono {B B' : Nat} {h : AHeap} {cv : Value} {cs : List Ws} (s : SlG B h cv cs) (hb : B ≤ B') : SlG B' h cv cs := s.keep (Keep.refl B h) hb
theorem SlG.nil (B : Nat) (h : AHeap) : SlG B h (.slice none 0 0) [] := ⟨[], .nil, .nil⟩
theorem SlG.len {B : Nat} {h h' : AHeap} {cv : Value} {cs : List Ws} (s : SlG B h cv cs) (el : TypeId) : lenS el cv h' = some (.int .i64 (.ofNat cs.length)) := by
  obtain ⟨lv, h1, h2⟩ := s.ex
  rw [h1.len (h' := h') el, h2.len]
theorem Lists.ll {F : Nat → Prop} {h : AHeap} {lv : List Value} {cs : List Ws} (s : Lists F h lv cs) : LL h.next h lv cs := by
  induction s with
  | nil => exact .nil
  | snoc _ h2 h3 ih => exact ih.snoc h2.sl h3
/-- An element of the group: where it lies, and what it is. -/
theorem SlG.at {B : Nat} {h : AHeap} {cv : Value} {cs : List Ws} (s : SlG B h cv cs) (i : Nat) (hi : i < cs.length) : ∃ b o w, b < B ∧ E.vIndexAddr 30 cv i = some (pto b o) ∧ E.loadVar h 23 b o = some w ∧ Sl B h w ((cs[i]).map str) := by
  obtain ⟨lv, h1, h2⟩ := s.ex
  have hi' : i < lv.length := by rw [h2.len]; exact hi
  obtain ⟨b, o, g1, g2, g3⟩ := h1.at un30 ti23 rfl un23 rfl hi'
  exact ⟨b, o, _, g1, g2, g3, (h2.at i hi hi').1⟩
theorem Sl.atS {B : Nat} {h : AHeap} {v : Value} {c : Ws} (s : Sl B h v (c.map str)) (i : Nat) (hi : i < c.length) : ∃ b o, b < B ∧ E.vIndexAddr 23 v i = some (pto b o) ∧ E.loadVar h 9 b o = some (str c[i]) := by
  have hi' : i < (c.map str).length := by rw [List.length_map]; exact hi
  obtain ⟨b, o, g1, g2, g3⟩ := Sl.at un23 ti9 rfl un9 rfl s hi'
  exact ⟨b, o, g1, g2, by rw [g3]; simp⟩
theorem Sl.lenS {B : Nat} {h h' : AHeap} {v : Value} {c : Ws} (s : Sl B h v (c.map str)) (el : TypeId) : lenS el v h' = some (.int .i64 (.ofNat c.length)) := by
  rw [Sl.len s (h' := h') el, List.length_map]

/-! sess.Decode -/
theorem un42' : (match E.und 42 with | some d => aggD d | none => false) = true := by kernel_rfl
theorem un42 : ∃ d, E.und 42 = some d ∧ aggD d = true := by
  have h := un42'
  split at h
  · rename_i d hd; exact ⟨d, hd, h⟩
  · cases h
theorem Grp.loadAll {q : Nat} {h : AHeap} {N M : Int} {cv : Value} (g : Grp q h N M cv) : E.loadVar h 42 q 0 = some (.agg #[.int .i64 N, .int .i64 M, cv]) := by
  obtain ⟨cs, hg, h0, h1, h2⟩ := g.get
  obtain ⟨d, hd, ha⟩ := un42
  unfold Env.loadVar
  simp only [ti42, hd, ha, cond_true, show (Tryz.t42).size = 3 from rfl, AHeap.loadN, hg, PT.gets, h0, h1, h2]
theorem Grp.row (h : AHeap) (N M : Int) (cv : Value) : Grp h.next (h.row [.int .i64 N, .int .i64 M, cv]) N M cv :=
  ⟨Nat.lt_succ_self _, _, row_get h _, by rw [PT.get_puts]; simp, by rw [PT.get_puts]; simp, by rw [PT.get_puts]; simp⟩
theorem results14 (g : Nat) (b : Bool) (h : AHeap) : E.results Tryz.f14 (fr 57 [(2, ptr g), (3, .bool b)]) h = match (match E.loadVar h 42 g 0 with | some v => some [v, .bool b] | none => none) with | some vs => some (tupleOf vs) | none => none := by kernel_rfl
theorem Grp.res14 {g : Nat} {h : AHeap} {N M : Int} {cv : Value} (r : Grp g h N M cv) (b : Bool) : E.results Tryz.f14 (fr 57 [(2, ptr g), (3, .bool b)]) h = some (.tuple #[.agg #[.int .i64 N, .int .i64 M, cv], .bool b]) := by
  rw [results14, r.loadAll]; rfl

/-- What is there behind the loop. -/
structure XD where
  hz : AHeap
  ht : AHeap
  k : Nat
  cv : Value
  agg : Value
theorem dec_ev (v : Value) (N a n : Nat) (D : Int) (h : AHeap) (c1 : Nat → AHeap → Prop) (c2 : Nat → Unit → AHeap → Prop) (c3 : Nat → AHeap → AHeap → Prop) (c5 : Nat → Nat → Unit → AHeap → Prop) (ca : Nat → Nat → XD → AHeap → Prop) (cb : Unit → AHeap → Prop) (c6 : XD → AHeap → Int → AHeap → Prop) (Q : ARet → AHeap → Prop) : orCall PP E 14 [v] h
  (.call (fun p : Nat => ptr p) c1 fun p _ => .call (fun _ : Unit => .int .i64 (.ofNat N)) (c2 p) fun _ _ => .call (fun _ : AHeap => .int .u64 (.ofNat a)) (c3 p) fun hs h3 => .val (.int .i64 D) (.eff undef hs (.call (fun _ : Unit => .int .i64 (.ofNat n)) (c5 p h3.next) fun _ _ =>
    .loop [2, 4, 5, 16, 17] 0 (fun _ : XD => fr 57 [(2, ptr h.next), (4, ptr p), (5, ptr h3.next)]) (ca p h3.next) (fun x h4 => .call (fun z : Int => .int .i64 z) (c6 x h4) fun _ _ => .br (.eff undef x.hz (.val (.tuple #[zeroG, .bool false]) .stop)) (.val x.cv (.val (.int .i64 (.ofNat x.k)) (.br (.eff undef x.hz (.val (.tuple #[zeroG, .bool false]) .stop)) (.val x.agg (.eff undef x.ht (.val (.tuple #[x.agg, .bool true]) .stop)))))))
      (fun _ : Unit => fr 57 [(2, ptr h.next), (3, .bool false)]) cb (fun _ _ => .val (.tuple #[zeroG, .bool false]) .stop)))) Q =
  (SC PP 35 [v] (h.row [.int .i64 (.ofNat 0), .int .i64 (.ofNat 0), .slice none 0 0]) (fun r h' => ∃ p : Nat, r = .ret (ptr p) ∧ c1 p h') ∧ ∀ (p : Nat) (h1 : AHeap), c1 p h1 →
    (SC PP 36 [ptr p, .int .i64 (.ofNat 1099511627776)] h1 (fun r h' => ∃ _ : Unit, r = .ret (.int .i64 (.ofNat N)) ∧ c2 p () h') ∧ ∀ (_ : Unit) (h2 : AHeap), c2 p () h2 →
      (SC PP 37 [ptr p] h2 (fun r h' => ∃ x : AHeap, r = .ret (.int .u64 (.ofNat a)) ∧ c3 p x h') ∧ ∀ (hs : AHeap) (h3 : AHeap), c3 p hs h3 →
        (some (Value.int .i64 (IntKind.i64.wrap (.ofNat a))) = some (.int .i64 D) ∧ E.storeVar (h3.row [.int .i64 (.ofNat 0), .int .i64 (.ofNat 0), .slice none 0 0]) 42 h3.next 0 (.agg #[.int .i64 (.ofNat N), .int .i64 D, .slice none 0 0]) = some hs ∧ undef = undef ∧
          (SC PP 36 [ptr p, .int .i64 (.ofNat 21)] hs (fun r h' => ∃ _ : Unit, r = .ret (.int .i64 (.ofNat n)) ∧ c5 p h3.next () h') ∧ ∀ (_ : Unit) (h5 : AHeap), c5 p h3.next () h5 →
            ((∀ rd, SW PP rd (.loop (bodyOf 14 0)) (frO h.next p h3.next n 0) h5 (LQ 0 (fun _ : XD => fr 57 [(2, ptr h.next), (4, ptr p), (5, ptr h3.next)]) (ca p h3.next) (fun _ : Unit => fr 57 [(2, ptr h.next), (3, .bool false)]) cb)) ∧
             (∀ (x : XD) (h4 : AHeap), ca p h3.next x h4 →
               (SC PP 40 [ptr p] h4 (fun r h' => ∃ z : Int, r = .ret (.int .i64 z) ∧ c6 x h4 z h') ∧ ∀ (z : Int) (h6 : AHeap), c6 x h4 z h6 →
                 (((!(z == 0)) = true → E.storeVar h6 42 h.next 0 zeroG = some x.hz ∧ undef = undef ∧ E.results Tryz.f14 (fr 57 [(2, ptr h.next), (3, .bool false)]) x.hz = some (.tuple #[zeroG, .bool false]) ∧ Q (.ret (.tuple #[zeroG, .bool false])) x.hz) ∧
                  ((!(z == 0)) = false → E.loadVar h6 30 h3.next 2 = some x.cv ∧ lenS 23 x.cv h6 = some (.int .i64 (.ofNat x.k)) ∧
                    ((decide (Int.ofNat x.k = 0) = true → E.storeVar h6 42 h.next 0 zeroG = some x.hz ∧ undef = undef ∧ E.results Tryz.f14 (fr 57 [(2, ptr h.next), (3, .bool false)]) x.hz = some (.tuple #[zeroG, .bool false]) ∧ Q (.ret (.tuple #[zeroG, .bool false])) x.hz) ∧
                     (decide (Int.ofNat x.k = 0) = false → E.loadVar h6 42 h3.next 0 = some x.agg ∧ E.storeVar h6 42 h.next 0 x.agg = some x.ht ∧ undef = undef ∧ E.results Tryz.f14 (fr 57 [(2, ptr h.next), (3, .bool true)]) x.ht = some (.tuple #[x.agg, .bool true]) ∧ Q (.ret (.tuple #[x.agg, .bool true])) x.ht)))))) ∧
             ∀ (_ : Unit) (h4 : AHeap), cb () h4 → E.results Tryz.f14 (fr 57 [(2, ptr h.next), (3, .bool false)]) h4 = some (.tuple #[zeroG, .bool false]) ∧ Q (.ret (.tuple #[zeroG, .bool false])) h4)))))) := by kernel_rfl

/-- How it stands while it is read: the result's cell is of zeros. -/
structure S1 (h0 : AHeap) (z : Prop) (p : Nat) (s : St2) (h' : AHeap) : Prop where
  rd : Rd z p h' s
  res : Grp h0.next h' 0 0 (.slice none 0 0)
  keep : Keep h0.next h0 h'
  lt : h0.next < p
theorem S1.after {h0 : AHeap} {z : Prop} {p : Nat} {s s' : St2} {h1 h2 : AHeap} (t : S1 h0 z p s h1) (a : After p h1 s' h2) : S1 h0 False p s' h2 :=
  ⟨a.1, t.res.keep (a.2.get _ t.res.lt (by have := t.lt; omega)) a.2.next, t.keep.trans (KeepR.toKeep a.2 (Nat.le_of_lt t.lt) t.keep.next), t.lt⟩
structure S2 (h0 : AHeap) (N D : Int) (p q : Nat) (s : St2) (h' : AHeap) : Prop where
  s1 : S1 h0 False p s h'
  grp : Grp q h' N D (.slice none 0 0)
  lt : p < q
theorem S2.after {h0 : AHeap} {N D : Int} {p q : Nat} {s s' : St2} {h1 h2 : AHeap} (t : S2 h0 N D p q s h1) (a : After p h1 s' h2) : S2 h0 N D p q s' h2 :=
  ⟨t.s1.after a, t.grp.keep (a.2.get _ t.grp.lt (by have := t.lt; omega)) a.2.next, t.lt⟩

/-- What Decode gives. -/
def DecR (h : AHeap) (o : Option G3) (x : ARet) (h' : AHeap) : Prop := Keep h.next h h' ∧ match o with
  | none => x = .ret (.tuple #[zeroG, .bool false])
  | some g => ∃ cv, x = .ret (.tuple #[.agg #[.int .i64 (.ofNat g.1), .int .i64 (IntKind.i64.wrap (.ofNat g.2.1)), cv], .bool true]) ∧ SlG h'.next h' cv g.2.2
theorem own_one {F : Nat → Prop} {h : AHeap} {v : Value} {l : List Value} (o : OwnF F h v l) : oneCell v = true := by
  rcases o.shape with rfl | ⟨_, _, _, rfl⟩ <;> rfl

theorem dec_ok {h : AHeap} {v : Value} {b : List UInt8} (hv : Sl h.next h v (bys b)) (hn : b.length < 4294967296) : SC PP 14 [v] h (DecR h (dec b)) := by
  have hrow := row_keep h [.int .i64 (.ofNat 0), .int .i64 (.ofNat 0), .slice none 0 0]
  have hnx : (h.row [.int .i64 (.ofNat 0), .int .i64 (.ofNat 0), .slice none 0 0]).next = h.next + 1 := rfl
  apply orCall_sound E_ok mixed
    (.call (fun p : Nat => ptr p) (fun p h1 => S1 h True p (b, 0) h1) fun p _ => .call (fun _ : Unit => .int .i64 (.ofNat (rdA b).1)) (fun _ h2 => S1 h False p (rdA b).2 h2) fun _ _ =>
      .call (fun _ : AHeap => .int .u64 (.ofNat (rdD b).1)) (fun hs h3 => E.storeVar (h3.row [.int .i64 (.ofNat 0), .int .i64 (.ofNat 0), .slice none 0 0]) 42 h3.next 0 (.agg #[.int .i64 (.ofNat (rdA b).1), .int .i64 (IntKind.i64.wrap (.ofNat (rdD b).1)), .slice none 0 0]) = some hs ∧
          S2 h (.ofNat (rdA b).1) (IntKind.i64.wrap (.ofNat (rdD b).1)) p h3.next (rdD b).2 hs) fun hs h3 =>
      .val (.int .i64 (IntKind.i64.wrap (.ofNat (rdD b).1))) (.eff undef hs (.call (fun _ : Unit => .int .i64 (.ofNat (rdN b).1)) (fun _ h5 => S2 h (.ofNat (rdA b).1) (IntKind.i64.wrap (.ofNat (rdD b).1)) p h3.next (rdN b).2 h5) fun _ _ =>
    .loop [2, 4, 5, 16, 17] 0 (fun _ : XD => fr 57 [(2, ptr h.next), (4, ptr p), (5, ptr h3.next)]) (fun x h4 => ∃ cs s', cmdsN (rdN b).1 (rdN b).2 = some (cs, s') ∧ Rd False p h4 s' ∧ E.storeVar h4 42 h.next 0 zeroG = some x.hz ∧ E.results Tryz.f14 (fr 57 [(2, ptr h.next), (3, .bool false)]) x.hz = some (.tuple #[zeroG, .bool false]) ∧ Keep h.next h x.hz ∧
        E.loadVar h4 30 h3.next 2 = some x.cv ∧ lenS 23 x.cv h4 = some (.int .i64 (.ofNat x.k)) ∧ x.k = cs.length ∧ E.loadVar h4 42 h3.next 0 = some x.agg ∧ E.storeVar h4 42 h.next 0 x.agg = some x.ht ∧ E.results Tryz.f14 (fr 57 [(2, ptr h.next), (3, .bool true)]) x.ht = some (.tuple #[x.agg, .bool true]) ∧
        x.agg = .agg #[.int .i64 (.ofNat (rdA b).1), .int .i64 (IntKind.i64.wrap (.ofNat (rdD b).1)), x.cv] ∧ SlG x.ht.next x.ht x.cv cs ∧ Keep h.next h x.ht)
      (fun x h4 => .call (fun z : Int => .int .i64 z) (fun z h6 => h6 = h4 ∧ (z = 0 ↔ ∃ cs s', cmdsN (rdN b).1 (rdN b).2 = some (cs, s') ∧ s'.2 = 0 ∧ s'.1 = [])) fun _ _ => .br (.eff undef x.hz (.val (.tuple #[zeroG, .bool false]) .stop)) (.val x.cv (.val (.int .i64 (.ofNat x.k)) (.br (.eff undef x.hz (.val (.tuple #[zeroG, .bool false]) .stop)) (.val x.agg (.eff undef x.ht (.val (.tuple #[x.agg, .bool true]) .stop)))))))
      (fun _ : Unit => fr 57 [(2, ptr h.next), (3, .bool false)]) (fun _ h4 => cmdsN (rdN b).1 (rdN b).2 = none ∧ Grp h.next h4 0 0 (.slice none 0 0) ∧ Keep h.next h h4) (fun _ _ => .val (.tuple #[zeroG, .bool false]) .stop))))
  rw [dec_ev (c1 := fun p h1 => S1 h True p (b, 0) h1) (c2 := fun p _ h2 => S1 h False p (rdA b).2 h2) (c5 := fun p q _ h5 => S2 h (.ofNat (rdA b).1) (IntKind.i64.wrap (.ofNat (rdD b).1)) p q (rdN b).2 h5)
    (c3 := fun p hs h3 => E.storeVar (h3.row [.int .i64 (.ofNat 0), .int .i64 (.ofNat 0), .slice none 0 0]) 42 h3.next 0 (.agg #[.int .i64 (.ofNat (rdA b).1), .int .i64 (IntKind.i64.wrap (.ofNat (rdD b).1)), .slice none 0 0]) = some hs ∧
          S2 h (.ofNat (rdA b).1) (IntKind.i64.wrap (.ofNat (rdD b).1)) p h3.next (rdD b).2 hs)
    (ca := fun p q x h4 => ∃ cs s', cmdsN (rdN b).1 (rdN b).2 = some (cs, s') ∧ Rd False p h4 s' ∧ E.storeVar h4 42 h.next 0 zeroG = some x.hz ∧ E.results Tryz.f14 (fr 57 [(2, ptr h.next), (3, .bool false)]) x.hz = some (.tuple #[zeroG, .bool false]) ∧ Keep h.next h x.hz ∧
        E.loadVar h4 30 q 2 = some x.cv ∧ lenS 23 x.cv h4 = some (.int .i64 (.ofNat x.k)) ∧ x.k = cs.length ∧ E.loadVar h4 42 q 0 = some x.agg ∧ E.storeVar h4 42 h.next 0 x.agg = some x.ht ∧ E.results Tryz.f14 (fr 57 [(2, ptr h.next), (3, .bool true)]) x.ht = some (.tuple #[x.agg, .bool true]) ∧
        x.agg = .agg #[.int .i64 (.ofNat (rdA b).1), .int .i64 (IntKind.i64.wrap (.ofNat (rdD b).1)), x.cv] ∧ SlG x.ht.next x.ht x.cv cs ∧ Keep h.next h x.ht)
    (cb := fun _ h4 => cmdsN (rdN b).1 (rdN b).2 = none ∧ Grp h.next h4 0 0 (.slice none 0 0) ∧ Keep h.next h h4)
    (c6 := fun x h4 z h6 => h6 = h4 ∧ (z = 0 ↔ ∃ cs s', cmdsN (rdN b).1 (rdN b).2 = some (cs, s') ∧ s'.2 = 0 ∧ s'.1 = []))]
  refine ⟨(rd_read (h := h.row _) (hv.keep hrow (Nat.le_succ _)) hn).mono ?_, ?_⟩
  · rintro x h' ⟨p, rfl, hp, hr, hk⟩
    exact ⟨p, rfl, hr, (Grp.row h 0 0 _).keep (hk.get _ (Nat.lt_succ_self _)) hk.next, hrow.trans (hk.mono (Nat.le_succ _)), by omega⟩
  intro p h1 q1
  refine ⟨(rd_num q1.rd (mx := 1099511627776) (by decide)).mono fun x h' q => ⟨(), q.1, q1.after q.2⟩, ?_⟩
  intro _ h2 q2
  refine ⟨(rd_u64 q2.rd).mono ?_, ?_⟩
  · rintro x h3 ⟨rfl, ha⟩
    have t := q2.after ha
    have hk3 := row_keep h3 [.int .i64 (.ofNat 0), .int .i64 (.ofNat 0), .slice none 0 0]
    obtain ⟨hs, e, r, k⟩ := (Grp.row h3 0 0 (.slice none 0 0)).storeAll (.ofNat (rdA b).1) (IntKind.i64.wrap (.ofNat (rdD b).1)) (v := .slice none 0 0) rfl
    have hk : Keep h3.next h3 hs := hk3.trans (KeepR.toKeep k (Nat.le_refl _) (Nat.le_succ _))
    refine ⟨hs, rfl, e, ⟨⟨t.rd.keep hk t.rd.lt, t.res.keep (hk.get _ t.res.lt) hk.next, t.keep.trans (hk.mono t.keep.next), t.lt⟩, r, t.rd.lt⟩⟩
  intro hs h3 q3
  refine ⟨rfl, q3.1, rfl, (rd_num q3.2.s1.rd (mx := 21) (by decide)).mono fun x h' q => ⟨(), q.1, q3.2.after q.2⟩, ?_⟩
  intro _ h5 q5
  have hle : (rdN b).1 ≤ 21 := rdNum_le _ _
  refine ⟨fun rd => ?_, ?_, ?_⟩
  · have hloop := cmds_loop (g := h.next) (p := p) (q := h3.next) (n := (rdN b).1) (B0 := h.next) (s := (rdN b).2) (N := .ofNat (rdA b).1) (M := IntKind.i64.wrap (.ofNat (rdD b).1)) (H := h5) (h0 := h) (rd := rd)
      ⟨Nat.le_refl _, Nat.le_of_lt q5.s1.lt, by have := q5.s1.lt; have := q5.lt; omega, q5.s1.lt, q5.lt, q5.s1.res.lt, q5.s1.rd.lt, q5.grp.lt⟩ hle
      ⟨.slice none 0 0, [], fun x => h5.next ≤ x, rfl, q5.s1.rd, q5.s1.res, q5.grp, .nil, .nil, fun _ h => h, fun _ h => h, q5.s1.keep, Nat.le_refl _⟩
    refine hloop.mono ?_
    intro x f h4 q4
    refine LQ.mono q4 ?_ (fun _ q => ⟨(), rfl, q⟩)
    rintro _ ⟨cs, s', cv, lv, F, t⟩
    obtain ⟨hz, e1, r1, k1⟩ := t.res.storeAll 0 0 (v := .slice none 0 0) rfl
    have ho := own_one t.own
    obtain ⟨ht, e2, r2, k2⟩ := t.res.storeAll (.ofNat (rdA b).1) (IntKind.i64.wrap (.ofNat (rdD b).1)) ho
    have hsl : SlG h4.next h4 cv cs := ⟨lv, t.own.sl, t.lists.ll⟩
    have kz : Keep h.next h hz := t.keep.trans (KeepR.toKeep k1 (Nat.le_refl _) t.keep.next)
    have kt : Keep h.next h ht := t.keep.trans (KeepR.toKeep k2 (Nat.le_refl _) t.keep.next)
    refine ⟨⟨hz, ht, cs.length, cv, .agg #[.int .i64 (.ofNat (rdA b).1), .int .i64 (IntKind.i64.wrap (.ofNat (rdD b).1)), cv]⟩, rfl, cs, s', t.dec, t.rd, e1, r1.res14 false, kz, t.grp.load2, hsl.len 23, rfl, t.grp.loadAll, e2, r2.res14 true, rfl, ?_, kt⟩
    -- what the result's cell is, the rows are not
    refine ⟨lv, ?_, ?_⟩
    · have hs := (t.own.weak (F' := fun x => F x) fun _ _ h => h)
      exact (own_after (p := h.next) hs k2 (fun hf => by have := t.lo _ hf; have := q5.s1.res.lt; omega)).sl
    · exact (t.lists.keep (F' := fun b => F b ∨ b = p ∨ b = h3.next ∨ b = h.next) k2.next (fun x hx hf => k2.get x hx (fun e => hf (.inr (.inr (.inr e))))) (fun _ _ h => h)).ll
  · rintro x h4 ⟨cs, s', e0, hr, e1, e2, e3, e4, e5, e6, e7, e8, e9, e10, e11, e12⟩
    refine ⟨(rd_end hr).mono ?_, ?_⟩
    · rintro y h' ⟨⟨z, rfl, hz⟩, rfl⟩
      refine ⟨z, rfl, rfl, hz.trans ⟨fun hh => ⟨cs, s', e0, hh⟩, ?_⟩⟩
      rintro ⟨cs2, s2, e, hh⟩
      rw [e0] at e
      simp only [Option.some.injEq, Prod.mk.injEq] at e
      rw [e.2]; exact hh
    · rintro z h6 ⟨rfl, hz⟩
      have hfail : (¬ (s'.2 = 0 ∧ s'.1 = [] ∧ cs ≠ [])) → DecR h (dec b) (.ret (.tuple #[zeroG, .bool false])) x.hz := by
        intro hh
        have : dec b = none := by unfold dec; rw [e0]; simp only [if_neg hh]
        rw [this]; exact ⟨e3, rfl⟩
      have hz0 : z = 0 ↔ s'.2 = 0 ∧ s'.1 = [] := hz.trans ⟨by
        rintro ⟨cs2, s2, e, hh⟩
        rw [e0] at e
        simp only [Option.some.injEq, Prod.mk.injEq] at e
        rw [e.2]; exact hh, fun hh => ⟨cs, s', e0, hh⟩⟩
      refine ⟨fun hc => ⟨e1, rfl, e2, hfail fun hh => ?_⟩, fun hc => ⟨e4, e5, fun hk => ⟨e1, rfl, e2, hfail fun hh => ?_⟩, fun hk => ⟨e7, e8, rfl, e9, ?_⟩⟩⟩
      · have : z = 0 := hz0.2 ⟨hh.1, hh.2.1⟩
        rw [this] at hc; cases hc
      · have hk := of_decide_eq_true hk
        have : cs.length = 0 := by rw [← e6]; exact Int.ofNat.inj hk
        exact hh.2.2 (List.length_eq_zero_iff.1 this)
      · have h0 : z = 0 := by simpa using hc
        obtain ⟨g1, g2⟩ := hz0.1 h0
        have hk := of_decide_eq_false hk
        have hcs : cs ≠ [] := by
          rintro rfl
          rw [e6] at hk; exact hk rfl
        have : dec b = some ((rdA b).1, (rdD b).1, cs) := by unfold dec; rw [e0]; simp only [if_pos (show s'.2 = 0 ∧ s'.1 = [] ∧ cs ≠ [] from ⟨g1, g2, hcs⟩)]
        rw [this]
        exact ⟨e12, x.cv, by rw [e10], e11⟩
  · rintro _ h4 ⟨e0, r, k⟩
    refine ⟨r.res14 false, ?_⟩
    have : dec b = none := by unfold dec; rw [e0]
    rw [this]; exact ⟨k, rfl⟩
end
end Go.Proofs.YtkkbpknpongmfaaGreatDoor

/- The document's putting: High, Both, Put64, PutNum, Put32, Put. -/
namespace Go.Proofs.YtkkbpknpongmfaaGreatDoor
open Go Go.Abs Classical
noncomputable section
theorem both_ev (v w v1 v2 : Value) (h h1 h2 : AHeap) (Q : ARet → AHeap → Prop) : orCall PP E 44 [v, w] h (.eff v1 h1 (.eff v2 h2 .stop)) Q =
    (E.appendA h 50 50 (.slice none 0 0) v = some (v1, h1) ∧ E.appendA h1 50 50 v1 w = some (v2, h2) ∧ Q (.ret v2) h2) := by kernel_rfl
/-- A slice of new memory, of bytes. -/
abbrev GivesB (h : AHeap) (l : List UInt8) : ARet → AHeap → Prop := Gives h (bys l)
theorem both_ok {h : AHeap} {v w : Value} {l m : List UInt8} (hv : Sl h.next h v (bys l)) (hw : Sl h.next h w (bys m)) (hn : l.length + m.length < 4294967296) : SC PP 44 [v, w] h (GivesB h (l ++ m)) := by
  obtain ⟨v1, h1, e1, o1, k1⟩ := own_append bytesOk (Nat.le_refl h.next) .nil hv (bys_one l) (by simp [bys_length]; omega) (by simp [bys_length]; omega)
  rw [List.nil_append] at o1
  obtain ⟨v2, h2, e2, o2, k2⟩ := own_append bytesOk k1.next o1 (hw.keep k1 k1.next) (bys_one m) (by simp [bys_length]; omega) (by simp [bys_length]; omega)
  rw [← bys_append] at o2
  apply orCall_sound E_ok mixed (.eff v1 h1 (.eff v2 h2 .stop))
  rw [both_ev]
  exact ⟨e1, e2, v2, rfl, o2, k1.trans k2⟩

def loB (x : Int) : Int := IntKind.u8.wrap (Int.tmod x (Int.ofNat 256))
def nxB (x : Int) : Int := IntKind.u64.wrap (Int.tdiv x (Int.ofNat 256))
def hiA (B : Nat) (ys : Nat → Int) (hs : Nat → AHeap) : List Nat → Nat → Ans
  | [], _ => .nb .stop
  | j :: js, i => .nb (.val (.int .u8 (ys i)) (.val (pto B j) (.eff undef (hs i) (hiA B ys hs js (i + 1)))))
def hiQ (Q : AHeap → Prop) (V : Value) (B : Nat) (ys : Nat → Int) (hs : Nat → AHeap) : List Nat → Nat → Int → AHeap → Prop
  | [], _, _, H => Q H
  | j :: js, i, x, H => some (Value.int .u8 (loB x)) = some (.int .u8 (ys i)) ∧ E.vIndexAddr 50 V j = some (pto B j) ∧ E.storeVar H 5 B j (.int .u8 (ys i)) = some (hs i) ∧ undef = undef ∧ hiQ Q V B ys hs js (i + 1) (nxB x) (hs i)
abbrev z8 : Value := .int .u8 (.ofNat 0)
theorem high_ev8 (x : Int) (ys : Nat → Int) (hs : Nat → AHeap) (h : AHeap) (Q : ARet → AHeap → Prop) : orCall PP E 75 [.int .u64 x, .int .i64 (.ofNat 8)] h (hiA h.next ys hs [7, 6, 5, 4, 3, 2, 1, 0] 0) Q =
    hiQ (fun H => Q (.ret (.slice (some ⟨h.next, 0, none⟩) 8 16)) H) (.slice (some ⟨h.next, 0, none⟩) 8 16) h.next ys hs [7, 6, 5, 4, 3, 2, 1, 0] 0 x (h.row [z8, z8, z8, z8, z8, z8, z8, z8]) := by kernel_rfl
theorem high_ev4 (x : Int) (ys : Nat → Int) (hs : Nat → AHeap) (h : AHeap) (Q : ARet → AHeap → Prop) : orCall PP E 75 [.int .u64 x, .int .i64 (.ofNat 4)] h (hiA h.next ys hs [3, 2, 1, 0] 0) Q =
    hiQ (fun H => Q (.ret (.slice (some ⟨h.next, 0, none⟩) 4 8)) H) (.slice (some ⟨h.next, 0, none⟩) 4 8) h.next ys hs [3, 2, 1, 0] 0 x (h.row [z8, z8, z8, z8]) := by kernel_rfl

theorem gets_of {cs : PT Value} : ∀ (l : List Value) (i : Nat), (∀ j, j < l.length → cs.get (i + j) = l[j]?) → cs.gets i l.length = some l
  | [], _, _ => rfl
  | x :: l, i, h => by
    have h0 := h 0 (by simp)
    simp only [Nat.add_zero, List.getElem?_cons_zero] at h0
    simp only [List.length_cons, PT.gets, h0]
    rw [gets_of l (Nat.succ i) (fun j hj => by
      have := h (j + 1) (by simpa using hj)
      rw [show Nat.succ i + j = i + (j + 1) from by omega, this]; simp)]
/-- A row in which bytes are laid from its end. -/
structure Lay (k n i : Nat) (h H : AHeap) : Prop where
  keep : Keep h.next h H
  lt : h.next < H.next
  get : ∃ cs, H.get h.next = some (.cells cs (.rw [])) ∧ ∀ j, j < k → cs.get j = some (.int .u8 (if j + i < k then .ofNat 0 else .ofNat (n / 256 ^ (k - 1 - j) % 256)))
theorem Lay.put {k n i : Nat} {h H : AHeap} (t : Lay k n i h H) (hi : i < k) : ∃ H', E.storeVar H 5 h.next (k - 1 - i) (.int .u8 (.ofNat (n / 256 ^ i % 256))) = some H' ∧ Lay k n (i + 1) h H' := by
  obtain ⟨k1, k2, cs, hg, hc⟩ := t
  refine ⟨H.set h.next (.cells (cs.puts (k - 1 - i) [.int .u8 (.ofNat (n / 256 ^ i % 256))]) (.rw [])), store_cell ti5 rfl hg (hc (k - 1 - i) (by omega)) rfl rfl, ?_, k2, cs.puts (k - 1 - i) [.int .u8 (.ofNat (n / 256 ^ i % 256))], ?_, ?_⟩
  · exact k1.trans ⟨rfl, Nat.le_refl _, fun b hb => by rw [AHeap.get_set, if_neg (by omega)], fun _ _ => rfl⟩
  · rw [AHeap.get_set, if_pos rfl]
  · intro j hj
    rw [PT.get_puts]
    simp only [List.length_cons, List.length_nil]
    by_cases e : j = k - 1 - i
    · subst e
      rw [if_pos ⟨Nat.le_refl _, by omega⟩, if_neg (by omega), show k - 1 - (k - 1 - i) = i from by omega]
      simp
    · rw [if_neg (by omega), hc j hj]
      by_cases h1 : j + i < k
      · rw [if_pos h1, if_pos (by omega)]
      · rw [if_neg h1, if_neg (by omega)]
theorem loB_nat (n : Nat) : loB (.ofNat n) = .ofNat (n % 256) := by
  unfold loB
  rw [show Int.tmod (.ofNat n) (.ofNat 256) = .ofNat (n % 256) from (Int.ofNat_tmod n 256).symm]
  unfold IntKind.wrap
  have e : (Int.ofNat (n % 256)) % (2 ^ 8 : Int) = Int.ofNat (n % 256) := by
    simp only [Int.ofNat_eq_natCast]; omega
  simp only [show IntKind.u8.bits = 8 from rfl, show IntKind.u8.signed = false from rfl, Bool.false_and, Bool.false_eq_true, if_false, e]
theorem nxB_nat {n : Nat} (h : n < 18446744073709551616) : nxB (.ofNat n) = .ofNat (n / 256) := by
  unfold nxB
  rw [show Int.tdiv (.ofNat n) (.ofNat 256) = .ofNat (n / 256) from (Int.ofNat_tdiv n 256).symm]
  exact wrap_u64 (by omega)
/-- The heaps on the way. -/
def layH (k n : Nat) (h H0 : AHeap) : Nat → AHeap
  | 0 => H0
  | i + 1 => (E.storeVar (layH k n h H0 i) 5 h.next (k - 1 - i) (.int .u8 (.ofNat (n / 256 ^ i % 256)))).getD H0
theorem layH_succ (k n : Nat) (h H0 : AHeap) (i : Nat) : layH k n h H0 (i + 1) = (E.storeVar (layH k n h H0 i) 5 h.next (k - 1 - i) (.int .u8 (.ofNat (n / 256 ^ i % 256)))).getD H0 := rfl
theorem layH_ok {k n : Nat} {h H0 : AHeap} (t : Lay k n 0 h H0) : ∀ i, i ≤ k → Lay k n i h (layH k n h H0 i) ∧ (∀ j, j < i → E.storeVar (layH k n h H0 j) 5 h.next (k - 1 - j) (.int .u8 (.ofNat (n / 256 ^ j % 256))) = some (layH k n h H0 (j + 1)))
  | 0, _ => ⟨t, fun _ h => absurd h (Nat.not_lt_zero _)⟩
  | i + 1, hi => by
    obtain ⟨h1, h2⟩ := layH_ok t i (by omega)
    obtain ⟨H', e, r⟩ := h1.put (by omega)
    have he : layH k n h H0 (i + 1) = H' := (layH_succ k n h H0 i).trans (congrArg (fun o : Option AHeap => o.getD H0) e)
    refine ⟨by rw [he]; exact r, fun j hj => ?_⟩
    rcases Nat.lt_or_ge j i with h3 | h3
    · exact h2 j h3
    · obtain rfl : j = i := by omega
      rw [he]; exact e
theorem lay_zeros (k n : Nat) (h : AHeap) (l : List Value) (hl : l = List.replicate k z8) : Lay k n 0 h (h.row l) := by
  subst hl
  refine ⟨row_keep h _, Nat.lt_succ_self _, _, row_get h _, fun j hj => ?_⟩
  rw [PT.get_puts, if_pos ⟨Nat.zero_le _, by simpa using hj⟩, if_pos (by omega)]
  simp [hj]
theorem bts_get : ∀ (k n j : Nat), j < k → (bts k n)[j]? = some (UInt8.ofNat (n / 256 ^ (k - 1 - j)))
  | k + 1, n, 0, _ => by simp [bts]
  | k + 1, n, j + 1, h => by
    rw [bts, List.getElem?_cons_succ, bts_get k n j (by omega), show k + 1 - 1 - (j + 1) = k - 1 - j from by omega]
theorem Lay.done {k n : Nat} {h H : AHeap} (t : Lay k n k h H) (c : Nat) : Sl H.next H (.slice (some ⟨h.next, 0, none⟩) k c) (bys (bts k n)) := by
  obtain ⟨k1, k2, cs, hg, hc⟩ := t
  have hl : (bys (bts k n)).length = k := by rw [bys_length, bts_len]
  have : H.loadN h.next 0 (bys (bts k n)).length = some (bys (bts k n)) := by
    have hgets : cs.gets 0 (bys (bts k n)).length = some (bys (bts k n)) := gets_of _ 0 fun j hj => by
      rw [hl] at hj
      rw [Nat.zero_add, hc j hj, if_neg (by omega)]
      simp only [bys, List.getElem?_map, bts_get k n j hj, Option.map_some]
      simp
    cases hk : (bys (bts k n)).length with
    | zero => rw [hk] at hgets; simpa [AHeap.loadN, PT.gets] using hgets
    | succ m => simp only [AHeap.loadN, hg]; rw [hk] at hgets; exact hgets
  have r := Sl.row (B := H.next) (k := c) k2 this
  rwa [hl] at r
theorem hiQ_of {Q : AHeap → Prop} {V : Value} {k n : Nat} {h H0 : AHeap} (hn : n < 18446744073709551616) (hV : ∀ j, j < k → E.vIndexAddr 50 V j = some (pto h.next j)) (t : Lay k n 0 h H0) (q : Q (layH k n h H0 k)) : ∀ (m i : Nat) (js : List Nat), i + m = k → js.length = m → (∀ a, a < m → js[a]? = some (m - 1 - a)) →
    hiQ Q V h.next (fun i => .ofNat (n / 256 ^ i % 256)) (fun i => layH k n h H0 (i + 1)) js i (.ofNat (n / 256 ^ i)) (layH k n h H0 i)
  | 0, i, [], hm, _, _ => by
    obtain rfl : i = k := by omega
    exact q
  | m + 1, i, j :: js, hm, hl, ha => by
    have hj : j = m := by have := ha 0 (by omega); simpa using this
    subst hj
    have hle : n / 256 ^ i ≤ n := Nat.div_le_self _ _
    refine ⟨by rw [loB_nat], hV j (by omega), ?_, rfl, ?_⟩
    · have := (layH_ok t k (Nat.le_refl k)).2 i (by omega)
      rwa [show k - 1 - i = j from by omega] at this
    · rw [nxB_nat (by omega), Nat.div_div_eq_div_mul, ← Nat.pow_succ]
      exact hiQ_of hn hV t q j (i + 1) js (by omega) (by simpa using hl) (fun a h' => by
        have := ha (a + 1) (by omega)
        rw [List.getElem?_cons_succ] at this
        rw [this]; congr 1; omega)

/-- A slice of bytes, made by a call. -/
def Made (h : AHeap) (l : List UInt8) (x : ARet) (h' : AHeap) : Prop := ∃ v, x = .ret v ∧ Sl h'.next h' v (bys l) ∧ Keep h.next h h'
theorem idx8 (b : Nat) : ∀ j, j < 8 → E.vIndexAddr 50 (.slice (some ⟨b, 0, none⟩) 8 16) j = some (pto b j) := by
  intro j hj
  simp only [Env.vIndexAddr, un50, ti5, show (Tryz.t5).size = 1 from rfl]
  rw [show Nat.blt j 8 = true from Nat.ble_eq_true_of_le hj]
  simp
theorem idx4 (b : Nat) : ∀ j, j < 4 → E.vIndexAddr 50 (.slice (some ⟨b, 0, none⟩) 4 8) j = some (pto b j) := by
  intro j hj
  simp only [Env.vIndexAddr, un50, ti5, show (Tryz.t5).size = 1 from rfl]
  rw [show Nat.blt j 4 = true from Nat.ble_eq_true_of_le hj]
  simp
theorem high_ok8 {h : AHeap} {n : Nat} (hn : n < 18446744073709551616) : SC PP 75 [.int .u64 (.ofNat n), .int .i64 (.ofNat 8)] h (Made h (bts 8 n)) := by
  have t := lay_zeros 8 n h [z8, z8, z8, z8, z8, z8, z8, z8] rfl
  apply orCall_sound E_ok mixed (hiA h.next (fun i => .ofNat (n / 256 ^ i % 256)) (fun i => layH 8 n h (h.row [z8, z8, z8, z8, z8, z8, z8, z8]) (i + 1)) [7, 6, 5, 4, 3, 2, 1, 0] 0)
  rw [high_ev8]
  have := hiQ_of (Q := fun H => Made h (bts 8 n) (.ret (.slice (some ⟨h.next, 0, none⟩) 8 16)) H) hn (idx8 h.next) t ⟨_, rfl, (layH_ok t 8 (Nat.le_refl _)).1.done 16, (layH_ok t 8 (Nat.le_refl _)).1.keep⟩ 8 0 [7, 6, 5, 4, 3, 2, 1, 0] rfl rfl (by decide)
  rw [Nat.pow_zero, Nat.div_one] at this
  exact this
theorem high_ok4 {h : AHeap} {n : Nat} (hn : n < 18446744073709551616) : SC PP 75 [.int .u64 (.ofNat n), .int .i64 (.ofNat 4)] h (Made h (bts 4 n)) := by
  have t := lay_zeros 4 n h [z8, z8, z8, z8] rfl
  apply orCall_sound E_ok mixed (hiA h.next (fun i => .ofNat (n / 256 ^ i % 256)) (fun i => layH 4 n h (h.row [z8, z8, z8, z8]) (i + 1)) [3, 2, 1, 0] 0)
  rw [high_ev4]
  have := hiQ_of (Q := fun H => Made h (bts 4 n) (.ret (.slice (some ⟨h.next, 0, none⟩) 4 8)) H) hn (idx4 h.next) t ⟨_, rfl, (layH_ok t 4 (Nat.le_refl _)).1.done 8, (layH_ok t 4 (Nat.le_refl _)).1.keep⟩ 4 0 [3, 2, 1, 0] rfl rfl (by decide)
  rw [Nat.pow_zero, Nat.div_one] at this
  exact this

theorem put64r_ev (b : Value) (x : Int) (h : AHeap) (c1 : Value → AHeap → Prop) (c2 : Value → Value → AHeap → Prop) (Q : ARet → AHeap → Prop) : orCall PP E 42 [b, .int .u64 x] h (.call (fun v : Value => v) c1 fun v _ => .call (fun w : Value => w) (c2 v) fun _ _ => .stop) Q =
    (SC PP 75 [.int .u64 x, .int .i64 (.ofNat 8)] h (fun r h' => ∃ v : Value, r = .ret v ∧ c1 v h') ∧ ∀ (v : Value) (h1 : AHeap), c1 v h1 → (SC PP 44 [b, v] h1 (fun r h' => ∃ w : Value, r = .ret w ∧ c2 v w h') ∧ ∀ (w : Value) (h2 : AHeap), c2 v w h2 → Q (.ret w) h2)) := by kernel_rfl
theorem put64r {h : AHeap} {b : Value} {l : List UInt8} {n : Nat} (hb : Sl h.next h b (bys l)) (hn : n < 18446744073709551616) (hl : l.length + 8 < 4294967296) : SC PP 42 [b, .int .u64 (.ofNat n)] h (GivesB h (l ++ bts 8 n)) := by
  apply orCall_sound E_ok mixed (.call (fun v : Value => v) (fun v h1 => Sl h1.next h1 v (bys (bts 8 n)) ∧ Keep h.next h h1) fun v _ => .call (fun w : Value => w) (fun w h2 => GivesB h (l ++ bts 8 n) (.ret w) h2) fun _ _ => .stop)
  rw [put64r_ev (c1 := fun v h1 => Sl h1.next h1 v (bys (bts 8 n)) ∧ Keep h.next h h1) (c2 := fun _ w h2 => GivesB h (l ++ bts 8 n) (.ret w) h2)]
  refine ⟨(high_ok8 hn).mono fun x h' ⟨v, e, q⟩ => ⟨v, e, q⟩, fun v h1 ⟨q1, q2⟩ => ⟨(both_ok (hb.keep q2 q2.next) q1 (by rw [bts_len]; exact hl)).mono ?_, fun w h2 q => q⟩⟩
  rintro x h2 ⟨w, rfl, o, k⟩
  exact ⟨w, rfl, w, rfl, o.mono q2.next, q2.trans (k.mono q2.next)⟩
theorem put32r_ev (b : Value) (x y : Int) (h : AHeap) (c1 : Value → AHeap → Prop) (c2 : Value → Value → AHeap → Prop) (Q : ARet → AHeap → Prop) : orCall PP E 76 [b, .int .u32 x] h (.val (.int .u64 y) (.call (fun v : Value => v) c1 fun v _ => .call (fun w : Value => w) (c2 v) fun _ _ => .stop)) Q =
    (some (Value.int .u64 (IntKind.u64.wrap x)) = some (.int .u64 y) ∧ SC PP 75 [.int .u64 y, .int .i64 (.ofNat 4)] h (fun r h' => ∃ v : Value, r = .ret v ∧ c1 v h') ∧ ∀ (v : Value) (h1 : AHeap), c1 v h1 → (SC PP 44 [b, v] h1 (fun r h' => ∃ w : Value, r = .ret w ∧ c2 v w h') ∧ ∀ (w : Value) (h2 : AHeap), c2 v w h2 → Q (.ret w) h2)) := by kernel_rfl
theorem put32r {h : AHeap} {b : Value} {l : List UInt8} {n : Nat} (hb : Sl h.next h b (bys l)) (hn : n < 4294967296) (hl : l.length + 4 < 4294967296) : SC PP 76 [b, .int .u32 (.ofNat n)] h (GivesB h (l ++ bts 4 n)) := by
  apply orCall_sound E_ok mixed (.val (.int .u64 (.ofNat n)) (.call (fun v : Value => v) (fun v h1 => Sl h1.next h1 v (bys (bts 4 n)) ∧ Keep h.next h h1) fun v _ => .call (fun w : Value => w) (fun w h2 => GivesB h (l ++ bts 4 n) (.ret w) h2) fun _ _ => .stop))
  rw [put32r_ev (c1 := fun v h1 => Sl h1.next h1 v (bys (bts 4 n)) ∧ Keep h.next h h1) (c2 := fun _ w h2 => GivesB h (l ++ bts 4 n) (.ret w) h2)]
  refine ⟨by rw [wrap_u64 (by omega)], (high_ok4 (by omega)).mono fun x h' ⟨v, e, q⟩ => ⟨v, e, q⟩, fun v h1 ⟨q1, q2⟩ => ⟨(both_ok (hb.keep q2 q2.next) q1 (by rw [bts_len]; exact hl)).mono ?_, fun w h2 q => q⟩⟩
  rintro x h2 ⟨w, rfl, o, k⟩
  exact ⟨w, rfl, w, rfl, o.mono q2.next, q2.trans (k.mono q2.next)⟩
theorem putNumr_ev (b : Value) (n y z : Int) (h : AHeap) (c1 c2 : Value → AHeap → Prop) (Q : ARet → AHeap → Prop) : orCall PP E 41 [b, .int .i64 n] h (.br (.val (.int .u64 y) (.call (fun v : Value => v) c1 fun _ _ => .stop)) (.val (.int .u64 z) (.call (fun v : Value => v) c2 fun _ _ => .stop))) Q =
    ((decide (n < 0) = true → some (Value.int .u64 (IntKind.u64.wrap (.ofNat 0))) = some (.int .u64 y) ∧ SC PP 42 [b, .int .u64 y] h (fun r h' => ∃ v : Value, r = .ret v ∧ c1 v h') ∧ ∀ (v : Value) (h1 : AHeap), c1 v h1 → Q (.ret v) h1) ∧
     (decide (n < 0) = false → some (Value.int .u64 (IntKind.u64.wrap n)) = some (.int .u64 z) ∧ SC PP 42 [b, .int .u64 z] h (fun r h' => ∃ v : Value, r = .ret v ∧ c2 v h') ∧ ∀ (v : Value) (h1 : AHeap), c2 v h1 → Q (.ret v) h1)) := by kernel_rfl
/-- A number, as it is put: one below 0 as 0. -/
def numN (n : Int) : Nat := n.toNat
theorem wrap_numN {n : Int} (h0 : ¬ n < 0) (hn : n < 9223372036854775808) : IntKind.u64.wrap n = .ofNat (numN n) := by
  have : n = Int.ofNat (numN n) := by unfold numN; simp only [Int.ofNat_eq_natCast]; omega
  conv => lhs; rw [this]
  exact wrap_u64 (by unfold numN; omega)
theorem putNumr {h : AHeap} {b : Value} {l : List UInt8} {n : Int} (hb : Sl h.next h b (bys l)) (hn : n < 9223372036854775808) (hl : l.length + 8 < 4294967296) : SC PP 41 [b, .int .i64 n] h (GivesB h (l ++ bts 8 (numN n))) := by
  apply orCall_sound E_ok mixed (.br (.val (.int .u64 (.ofNat (numN n))) (.call (fun v : Value => v) (fun v h1 => GivesB h (l ++ bts 8 (numN n)) (.ret v) h1) fun _ _ => .stop)) (.val (.int .u64 (.ofNat (numN n))) (.call (fun v : Value => v) (fun v h1 => GivesB h (l ++ bts 8 (numN n)) (.ret v) h1) fun _ _ => .stop)))
  rw [putNumr_ev]
  have hs : SC PP 42 [b, .int .u64 (.ofNat (numN n))] h (fun r h' => ∃ v : Value, r = .ret v ∧ GivesB h (l ++ bts 8 (numN n)) (.ret v) h') := (put64r hb (by unfold numN; omega) hl).mono fun x h' ⟨v, e, q⟩ => ⟨v, e, v, rfl, q⟩
  refine ⟨fun hc => ⟨?_, hs, fun _ _ q => q⟩, fun hc => ⟨by rw [wrap_numN (of_decide_eq_false hc) hn], hs, fun _ _ q => q⟩⟩
  have hc := of_decide_eq_true hc
  have : numN n = 0 := by unfold numN; omega
  rw [this]; rfl
theorem putr_ev (b s : Value) (k : Nat) (y : Int) (h : AHeap) (c1 : Value → AHeap → Prop) (c2 : Value → Value → AHeap → Prop) (Q : ARet → AHeap → Prop) : orCall PP E 43 [b, s] h (.val (.int .i64 (.ofNat k)) (.val (.int .u32 y) (.call (fun v : Value => v) c1 fun v _ => .call (fun w : Value => w) (c2 v) fun _ _ => .stop))) Q =
    (lenS 5 s h = some (.int .i64 (.ofNat k)) ∧ some (Value.int .u32 (IntKind.u32.wrap (.ofNat k))) = some (.int .u32 y) ∧ SC PP 76 [b, .int .u32 y] h (fun r h' => ∃ v : Value, r = .ret v ∧ c1 v h') ∧ ∀ (v : Value) (h1 : AHeap), c1 v h1 →
      (SC PP 44 [v, s] h1 (fun r h' => ∃ w : Value, r = .ret w ∧ c2 v w h') ∧ ∀ (w : Value) (h2 : AHeap), c2 v w h2 → Q (.ret w) h2)) := by kernel_rfl
theorem putr {h : AHeap} {b s : Value} {l ls : List UInt8} (hb : Sl h.next h b (bys l)) (hs : Sl h.next h s (bys ls)) (hl : l.length + 4 + ls.length < 4294967296) : SC PP 43 [b, s] h (GivesB h (l ++ eW ls)) := by
  apply orCall_sound E_ok mixed (.val (.int .i64 (.ofNat ls.length)) (.val (.int .u32 (.ofNat ls.length)) (.call (fun v : Value => v) (fun v h1 => GivesB h (l ++ bts 4 ls.length) (.ret v) h1) fun v _ => .call (fun w : Value => w) (fun w h2 => GivesB h (l ++ eW ls) (.ret w) h2) fun _ _ => .stop)))
  rw [putr_ev (c1 := fun v h1 => GivesB h (l ++ bts 4 ls.length) (.ret v) h1) (c2 := fun _ w h2 => GivesB h (l ++ eW ls) (.ret w) h2)]
  refine ⟨by rw [hs.len (h' := h) 5, bys_length], by rw [wrap_u32 (by omega)], (put32r hb (by omega) (by omega)).mono fun x h' ⟨v, e, q⟩ => ⟨v, e, v, rfl, q⟩, ?_⟩
  rintro v h1 ⟨v', e, o, k⟩
  cases e
  refine ⟨(both_ok o.sl (hs.keep k k.next) (by rw [List.length_append, bts_len]; omega)).mono ?_, fun w h2 q => q⟩
  rintro x h2 ⟨w, rfl, o2, k2⟩
  refine ⟨w, rfl, w, rfl, ?_, k.trans (k2.mono k.next)⟩
  have := o2.mono k.next
  rwa [List.append_assoc] at this
end
end Go.Proofs.YtkkbpknpongmfaaGreatDoor

/- The document's reader: it reads as the program's does. -/
namespace Go.Proofs.YtkkbpknpongmfaaGreatDoor
open Go Go.Abs Classical
noncomputable section
/-- A reader of the document's at p: what is left, its error. -/
structure RdI (z : Prop) (p : Nat) (h : AHeap) (s : St2) : Prop where
  lt : p < h.next
  inv : s.2 = 0 ∨ s.1 = []
  get : ∃ cs v, h.get p = some (.cells cs (.rw [])) ∧ cs.get 0 = some v ∧ cs.get 1 = some (.int .i64 s.2) ∧ Rest (z ∨ s.2 ≠ 0) p p h v s.1
theorem RdI.load0 {z : Prop} {p : Nat} {h : AHeap} {s : St2} (r : RdI z p h s) : ∃ v, E.loadVar h 50 p 0 = some v ∧ Rest (z ∨ s.2 ≠ 0) p p h v s.1 := by
  obtain ⟨cs, v, hg, h0, _, hr⟩ := r.get
  exact ⟨v, load_cell ti50 un50 rfl hg h0, hr⟩
theorem RdI.load1 {z : Prop} {p : Nat} {h : AHeap} {s : St2} (r : RdI z p h s) : E.loadVar h 3 p 1 = some (.int .i64 s.2) := by
  obtain ⟨cs, v, hg, _, h1, _⟩ := r.get
  exact load_cell ti3 un3 rfl hg h1
theorem RdI.keep {z : Prop} {p : Nat} {h h' : AHeap} {s : St2} (r : RdI z p h s) {B : Nat} (k : Keep B h h') (hB : p < B) : RdI z p h' s := by
  obtain ⟨h1, h2, cs, v, hg, h3, h4, h6⟩ := r
  exact ⟨Nat.lt_of_lt_of_le h1 k.next, h2, cs, v, by rw [k.get p hB]; exact hg, h3, h4, h6.keep ((k.keepR p).mono (Nat.le_of_lt hB)) (Nat.le_refl _)⟩
theorem RdI.store0 {z z' : Prop} {p : Nat} {h : AHeap} {s : St2} (r : RdI z p h s) {l : List UInt8} {v : Value} (hi : s.2 = 0 ∨ l = []) (hv : Rest (z' ∨ s.2 ≠ 0) p p h v l) : ∃ h', E.storeVar h 50 p 0 v = some h' ∧ RdI z' p h' (l, s.2) ∧ KeepR p h.next h h' := by
  obtain ⟨cs, u, hg, h0, h1, _⟩ := r.get
  have hc : cellsL v = [v] ∧ oneCell v = true := by
    rcases hv with ⟨_, _, rfl⟩ | hv
    · exact ⟨rfl, rfl⟩
    · cases hv; exact ⟨rfl, rfl⟩
  refine ⟨h.set p (.cells (cs.puts 0 [v]) (.rw [])), store_cell ti50 rfl hg h0 hc.1 hc.2, ⟨r.lt, hi, cs.puts 0 [v], v, ?_, ?_, ?_, hv.keep (KeepR.set p p h _) (Nat.le_refl _)⟩, KeepR.set p h.next h _⟩
  · rw [AHeap.get_set, if_pos rfl]
  · rw [PT.get_puts]; simp
  · rw [PT.get_puts]; simpa using h1
/-- A store of an error. -/
theorem RdI.store1 {z : Prop} {p : Nat} {h : AHeap} {s : St2} (r : RdI z p h s) {e : Int} (he : e ≠ 0) : ∃ h1 h2, E.storeVar h 3 p 1 (.int .i64 e) = some h1 ∧ E.storeVar h1 50 p 0 (.slice none 0 0) = some h2 ∧ RdI False p h2 ([], e) ∧ KeepR p h.next h h2 := by
  obtain ⟨cs, u, hg, h0, h1, _⟩ := r.get
  have e1 : E.storeVar h 3 p 1 (.int .i64 e) = some (h.set p (.cells (cs.puts 1 [.int .i64 e]) (.rw []))) := store_cell ti3 rfl hg h1 rfl rfl
  have hg2 : (h.set p (.cells (cs.puts 1 [.int .i64 e]) (.rw []))).get p = some (.cells (cs.puts 1 [.int .i64 e]) (.rw [])) := by rw [AHeap.get_set, if_pos rfl]
  have hc0 : (cs.puts 1 [.int .i64 e]).get 0 = some u := by rw [PT.get_puts]; simpa using h0
  have e2 : E.storeVar (h.set p (.cells (cs.puts 1 [.int .i64 e]) (.rw []))) 50 p 0 (.slice none 0 0) = some _ := store_cell ti50 rfl hg2 hc0 rfl rfl
  refine ⟨_, _, e1, e2, ⟨r.lt, .inr rfl, (cs.puts 1 [.int .i64 e]).puts 0 [.slice none 0 0], .slice none 0 0, ?_, ?_, ?_, .inl ⟨.inr he, rfl, rfl⟩⟩, (KeepR.set p h.next h _).trans (KeepR.set p h.next _ _)⟩
  · rw [AHeap.get_set, if_pos rfl]
  · rw [PT.get_puts]; simp
  · rw [PT.get_puts, PT.get_puts]; simp

theorem fail77_ev (p : Nat) (e e0 : Int) (h h1 h2 h3 : AHeap) (Q : ARet → AHeap → Prop) : orCall PP E 77 [ptr p, .int .i64 e] h (.val (.int .i64 e0) (.br (.eff undef h1 (.eff undef h2 .stop)) (.eff undef h3 .stop))) Q =
    (E.loadVar h 3 p 1 = some (.int .i64 e0) ∧ ((decide (e0 = 0) = true → E.storeVar h 3 p 1 (.int .i64 e) = some h1 ∧ undef = undef ∧ E.storeVar h1 50 p 0 (.slice none 0 0) = some h2 ∧ undef = undef ∧ Q (.ret unit) h2) ∧
      (decide (e0 = 0) = false → E.storeVar h 50 p 0 (.slice none 0 0) = some h3 ∧ undef = undef ∧ Q (.ret unit) h3))) := by kernel_rfl
theorem rdi_fail {z : Prop} {p : Nat} {h : AHeap} {s : St2} (r : RdI z p h s) {e : Int} (he : e ≠ 0) : SC PP 77 [ptr p, .int .i64 e] h (fun x h' => x = .ret unit ∧ RdI False p h' ([], if s.2 = 0 then e else s.2) ∧ KeepR p h.next h h') := by
  obtain ⟨h1, h2, e1, e2, q1, q2⟩ := r.store1 he
  by_cases h0 : s.2 = 0
  · apply orCall_sound E_ok mixed (.val (.int .i64 s.2) (.br (.eff undef h1 (.eff undef h2 .stop)) (.eff undef h2 .stop)))
    rw [fail77_ev]
    refine ⟨r.load1, fun _ => ⟨e1, rfl, e2, rfl, rfl, ?_, q2⟩, fun hc => absurd h0 (of_decide_eq_false hc)⟩
    rw [if_pos h0]; exact q1
  · obtain ⟨h3, e3, q3, q4⟩ := r.store0 (z' := False) (l := []) (v := .slice none 0 0) (.inr rfl) (.inl ⟨.inr h0, rfl, rfl⟩)
    apply orCall_sound E_ok mixed (.val (.int .i64 s.2) (.br (.eff undef h1 (.eff undef h2 .stop)) (.eff undef h3 .stop)))
    rw [fail77_ev]
    refine ⟨r.load1, fun hc => absurd (of_decide_eq_true hc) h0, fun _ => ⟨e3, rfl, rfl, ?_, q4⟩⟩
    rw [if_neg h0]; exact q3

/-- What a function of the reader leaves. -/
def AftI (p : Nat) (h : AHeap) (s' : St2) (h' : AHeap) : Prop := RdI False p h' s' ∧ KeepR p h.next h h'
theorem AftI.trans {p : Nat} {h h1 h2 : AHeap} {s s' : St2} (a : AftI p h s h1) (b : AftI p h1 s' h2) : AftI p h s' h2 := ⟨b.1, KeepR.step a.2 b.2⟩
def mulStep (v x : Int) : Int := IntKind.u64.wrap (IntKind.u64.wrap (Int.ofNat 256 * v) + x)
theorem mulStep_ok {v x : Nat} (h : 256 * v + x < 18446744073709551616) : mulStep (.ofNat v) (.ofNat x) = .ofNat (256 * v + x) := by
  unfold mulStep
  rw [show Int.ofNat 256 * Int.ofNat v = Int.ofNat (256 * v) from rfl, wrap_u64 (by omega), show Int.ofNat (256 * v) + Int.ofNat x = Int.ofNat (256 * v + x) from rfl, wrap_u64 h]
def numQ (Q : Int → Prop) (p : Nat) (h : AHeap) (u : Value) (b o : Nat → Nat) : List Nat → Nat → Int → Prop
  | [], _, v => Q v
  | x :: xs, j, v => E.loadVar h 50 p 0 = some u ∧ E.vIndexAddr 50 u j = some (pto (b j) (o j)) ∧ E.loadVar h 5 (b j) (o j) = some (.int .u8 (.ofNat x)) ∧ some (Value.int .u64 (IntKind.u64.wrap (.ofNat x))) = some (Value.int .u64 (.ofNat x)) ∧ numQ Q p h u b o xs (j + 1) (mulStep v (.ofNat x))
def numB (u : Value) (b o : Nat → Nat) (n : Ans) : List Nat → Nat → Ans
  | [], _ => .nb n
  | x :: xs, j => .nb (.val u (.val (pto (b j) (o j)) (.val (.int .u8 (.ofNat x)) (.val (.int .u64 (.ofNat x)) (numB u b o n xs (j + 1))))))
theorem numQ_of {Q : Int → Prop} {p : Nat} {h : AHeap} {u : Value} {b o : Nat → Nat} {L : List UInt8} (hu : E.loadVar h 50 p 0 = some u) (hl : ∀ (j : Nat) (hj : j < (bys L).length), E.vIndexAddr 50 u j = some (pto (b j) (o j)) ∧ E.loadVar h 5 (b j) (o j) = some (bys L)[j]) : ∀ (xs ys : List UInt8) (j v : Nat), L.drop j = xs ++ ys → v < 256 ^ j → j + xs.length ≤ 8 → Q (.ofNat (xs.foldl (fun v c => 256 * v + c.toNat) v)) → numQ Q p h u b o (xs.map (·.toNat)) j (.ofNat v)
  | [], _, _, _, _, _, _, q => q
  | x :: xs, ys, j, v, hd, hv, h8, q => by
    have hj : j < L.length := by
      rcases Nat.lt_or_ge j L.length with h | h
      · exact h
      · rw [List.drop_of_length_le h] at hd; cases hd
    have hx : L[j] = x ∧ L.drop (j + 1) = xs ++ ys := by
      rw [List.drop_eq_getElem_cons hj, List.cons_append] at hd
      injection hd with h1 h2
      exact ⟨h1, h2⟩
    obtain ⟨e1, e2⟩ := hl j (by rw [bys_length]; exact hj)
    have hxl := x.toNat_lt
    simp only [List.length_cons] at h8
    have hp : 256 ^ (j + 1) ≤ 256 ^ 8 := Nat.pow_le_pow_right (by omega) (by omega)
    have hp2 : 256 ^ (j + 1) = 256 * 256 ^ j := by rw [Nat.pow_succ]; omega
    have hp3 : (256 : Nat) ^ 8 = 18446744073709551616 := rfl
    refine ⟨hu, e1, by rw [e2]; simp [bys, hx.1], by rw [wrap_u64 (show x.toNat < _ by omega)], ?_⟩
    have hxx : (fun (x : UInt8) => x.toNat) x = x.toNat := rfl
    rw [hxx, mulStep_ok (by omega)]
    exact numQ_of hu hl xs ys (j + 1) _ hx.2 (by omega) (by omega) q

theorem u_ev8 (p b o m k x0 x1 x2 x3 x4 x5 x6 x7 : Nat) (bb oo : Nat → Nat) (u : Value) (h h1 : AHeap) (Q : ARet → AHeap → Prop) :
    orCall PP E 46 [ptr p, .int .i64 (.ofNat 8)] h (.val (.slice (some ⟨b, o, none⟩) m k) (.val (.int .i64 (.ofNat m)) (.br .stop (numB (.slice (some ⟨b, o, none⟩) m k) bb oo (.val (.slice (some ⟨b, o, none⟩) m k) (.val u (.eff undef h1 .stop))) [x0, x1, x2, x3, x4, x5, x6, x7] 0)))) Q =
    (E.loadVar h 50 p 0 = some (.slice (some ⟨b, o, none⟩) m k) ∧ some (Value.int .i64 (.ofNat m)) = some (Value.int .i64 (.ofNat m)) ∧ ((decide (Int.ofNat m < Int.ofNat 8) = true → False) ∧ (decide (Int.ofNat m < Int.ofNat 8) = false →
      numQ (fun v => E.loadVar h 50 p 0 = some (.slice (some ⟨b, o, none⟩) m k) ∧ sl3 b o k 8 m = some u ∧ E.storeVar h 50 p 0 u = some h1 ∧ undef = undef ∧ Q (.ret (.int .u64 v)) h1) p h (.slice (some ⟨b, o, none⟩) m k) bb oo [x0, x1, x2, x3, x4, x5, x6, x7] 0 (.ofNat 0)))) := by kernel_rfl
theorem u_ev4 (p b o m k x0 x1 x2 x3 : Nat) (bb oo : Nat → Nat) (u : Value) (h h1 : AHeap) (Q : ARet → AHeap → Prop) :
    orCall PP E 46 [ptr p, .int .i64 (.ofNat 4)] h (.val (.slice (some ⟨b, o, none⟩) m k) (.val (.int .i64 (.ofNat m)) (.br .stop (numB (.slice (some ⟨b, o, none⟩) m k) bb oo (.val (.slice (some ⟨b, o, none⟩) m k) (.val u (.eff undef h1 .stop))) [x0, x1, x2, x3] 0)))) Q =
    (E.loadVar h 50 p 0 = some (.slice (some ⟨b, o, none⟩) m k) ∧ some (Value.int .i64 (.ofNat m)) = some (Value.int .i64 (.ofNat m)) ∧ ((decide (Int.ofNat m < Int.ofNat 4) = true → False) ∧ (decide (Int.ofNat m < Int.ofNat 4) = false →
      numQ (fun v => E.loadVar h 50 p 0 = some (.slice (some ⟨b, o, none⟩) m k) ∧ sl3 b o k 4 m = some u ∧ E.storeVar h 50 p 0 u = some h1 ∧ undef = undef ∧ Q (.ret (.int .u64 v)) h1) p h (.slice (some ⟨b, o, none⟩) m k) bb oo [x0, x1, x2, x3] 0 (.ofNat 0)))) := by kernel_rfl
theorem u_ev0 (p n : Nat) (v : Value) (m : Int) (h : AHeap) (c : Unit → AHeap → Prop) (Q : ARet → AHeap → Prop) :
    orCall PP E 46 [ptr p, .int .i64 (.ofNat n)] h (.val v (.val (.int .i64 m) (.br (.call (fun _ : Unit => unit) c fun _ _ => .stop) .stop))) Q =
    (E.loadVar h 50 p 0 = some v ∧ lenS 5 v h = some (.int .i64 m) ∧ ((decide (m < Int.ofNat n) = true → (SC PP 77 [ptr p, .int .i64 (.ofNat 4)] h (fun r h' => ∃ _ : Unit, r = .ret unit ∧ c () h') ∧ ∀ (_ : Unit) (h' : AHeap), c () h' → Q (.ret (.int .u64 (.ofNat 0))) h')) ∧ (decide (m < Int.ofNat n) = false → False))) := by kernel_rfl
theorem rdi_u {z : Prop} {p : Nat} {h : AHeap} {s : St2} (r : RdI z p h s) {n : Nat} (hn : n = 4 ∨ n = 8) : SC PP 46 [ptr p, .int .i64 (.ofNat n)] h (fun x h' => x = .ret (.int .u64 (.ofNat (rdU n s).1)) ∧ AftI p h (rdU n s).2 h') := by
  obtain ⟨v, hv, hr⟩ := r.load0
  by_cases hl : n ≤ s.1.length
  · have h0 : s.2 = 0 := by
      rcases r.inv with h | h
      · exact h
      · rw [h] at hl; simp at hl; omega
    have hx : SlX p p h v (bys s.1) := by
      rcases hr with ⟨_, he, _⟩ | hx
      · rw [he] at hl; simp at hl; omega
      · exact hx
    have hx' := hx
    cases hx' with
    | row g1 g2 g3 g4 g5 g6 =>
      rename_i b o k
      obtain ⟨_, _, _, g10, g11⟩ := slx_parts hx (n := n) (by rw [bys_length]; exact hl)
      rw [bys_drop] at g11
      obtain ⟨h2, e2, r2, k2⟩ := r.store0 (z' := False) (l := s.1.drop n) (.inl h0) (.inr g11)
      obtain ⟨bb, oo, hbo⟩ := sl_ats un50 ti5 rfl un5 rfl (show Sl p h (.slice (some ⟨b, o, none⟩) (bys s.1).length k) (bys s.1) from .row g1 g3)
      have hnx : nxt n s = (some (s.1.take n), (s.1.drop n, s.2)) := by unfold nxt; rw [if_pos h0, if_pos hl, h0]
      have hru : rdU n s = (beVal (s.1.take n), (s.1.drop n, s.2)) := by unfold rdU; rw [hnx]
      have hcm : decide (Int.ofNat (bys s.1).length < Int.ofNat n) = true → False := by
        intro hc
        have := of_decide_eq_true hc
        simp only [bys_length, Int.ofNat_eq_natCast] at this
        omega
      have hlt : (s.1.take n).length = n := by rw [List.length_take]; omega
      have hdr : s.1.drop 0 = s.1.take n ++ s.1.drop n := by simp
      rw [hru]
      rcases hn with rfl | rfl
      · match hL : s.1.take 4, hlt with
        | [x0, x1, x2, x3], _ =>
          apply orCall_sound E_ok mixed (.val (.slice (some ⟨b, o, none⟩) (bys s.1).length k) (.val (.int .i64 (.ofNat (bys s.1).length)) (.br .stop (numB (.slice (some ⟨b, o, none⟩) (bys s.1).length k) bb oo (.val (.slice (some ⟨b, o, none⟩) (bys s.1).length k) (.val (.slice (some ⟨b, o + 4 * 1, none⟩) ((bys s.1).length - 4) (subCap k 4 none)) (.eff undef h2 .stop))) [x0.toNat, x1.toNat, x2.toNat, x3.toNat] 0))))
          rw [u_ev4]
          refine ⟨hv, rfl, hcm, fun _ => numQ_of hv (fun j hj => (hbo j hj).2) [x0, x1, x2, x3] (s.1.drop 4) 0 0 (by rw [← hL]; exact hdr) (by decide) (by simp) ⟨hv, g10, e2, rfl, rfl, r2, k2⟩⟩
      · match hL : s.1.take 8, hlt with
        | [x0, x1, x2, x3, x4, x5, x6, x7], _ =>
          apply orCall_sound E_ok mixed (.val (.slice (some ⟨b, o, none⟩) (bys s.1).length k) (.val (.int .i64 (.ofNat (bys s.1).length)) (.br .stop (numB (.slice (some ⟨b, o, none⟩) (bys s.1).length k) bb oo (.val (.slice (some ⟨b, o, none⟩) (bys s.1).length k) (.val (.slice (some ⟨b, o + 8 * 1, none⟩) ((bys s.1).length - 8) (subCap k 8 none)) (.eff undef h2 .stop))) [x0.toNat, x1.toNat, x2.toNat, x3.toNat, x4.toNat, x5.toNat, x6.toNat, x7.toNat] 0))))
          rw [u_ev8]
          refine ⟨hv, rfl, hcm, fun _ => numQ_of hv (fun j hj => (hbo j hj).2) [x0, x1, x2, x3, x4, x5, x6, x7] (s.1.drop 8) 0 0 (by rw [← hL]; exact hdr) (by decide) (by simp) ⟨hv, g10, e2, rfl, rfl, r2, k2⟩⟩
  · have hru : rdU n s = (0, ([], if s.2 = 0 then 4 else s.2)) := by
      unfold rdU nxt
      by_cases h0 : s.2 = 0
      · rw [if_pos h0, if_neg hl, if_pos h0]
      · rw [if_neg h0, if_neg h0]
    rw [hru]
    apply orCall_sound E_ok mixed (.val v (.val (.int .i64 (.ofNat s.1.length)) (.br (.call (fun _ : Unit => unit) (fun _ h' => AftI p h ([], if s.2 = 0 then 4 else s.2) h') fun _ _ => .stop) .stop)))
    rw [u_ev0]
    refine ⟨hv, hr.len h, fun _ => ⟨(rdi_fail r (e := 4) (by decide)).mono fun x h' q => ⟨(), q.1, q.2⟩, fun _ h' q => ⟨rfl, q⟩⟩, fun hc => ?_⟩
    exact absurd (Int.ofNat_lt.2 (by omega)) (of_decide_eq_false hc)

theorem numi_ev (p : Nat) (x y mx e0 : Int) (h : AHeap) (c1 c2 : Unit → AHeap → Prop) (Q : ARet → AHeap → Prop) : orCall PP E 45 [ptr p, .int .i64 mx] h
      (.call (fun _ : Unit => .int .u64 x) c1 fun _ _ => .val (.int .i64 e0) (.br (.br (.call (fun _ : Unit => unit) c2 fun _ _ => .stop) (.val (.int .i64 y) (.br (.call (fun _ : Unit => unit) c2 fun _ _ => .stop) (.val (.int .i64 y) .stop)))) (.val (.int .i64 y) .stop))) Q =
    (SC PP 46 [ptr p, .int .i64 (.ofNat 8)] h (fun r h' => ∃ _ : Unit, r = .ret (.int .u64 x) ∧ c1 () h') ∧ ∀ (_ : Unit) (h' : AHeap), c1 () h' → (E.loadVar h' 3 p 1 = some (.int .i64 e0) ∧
      ((decide (e0 = 0) = true →
        ((decide (x ≥ 9223372036854775808) = true → (SC PP 77 [ptr p, .int .i64 (.ofNat 5)] h' (fun r h' => ∃ _ : Unit, r = .ret unit ∧ c2 () h') ∧ ∀ (_ : Unit) (h' : AHeap), c2 () h' → Q (.ret (.int .i64 (.ofNat 0))) h')) ∧
         (decide (x ≥ 9223372036854775808) = false → some (Value.int .i64 (IntKind.i64.wrap x)) = some (.int .i64 y) ∧
           ((decide (y > mx) = true → (SC PP 77 [ptr p, .int .i64 (.ofNat 5)] h' (fun r h' => ∃ _ : Unit, r = .ret unit ∧ c2 () h') ∧ ∀ (_ : Unit) (h' : AHeap), c2 () h' → Q (.ret (.int .i64 (.ofNat 0))) h')) ∧
            (decide (y > mx) = false → some (Value.int .i64 (IntKind.i64.wrap x)) = some (.int .i64 y) ∧ Q (.ret (.int .i64 y)) h'))))) ∧
       (decide (e0 = 0) = false → some (Value.int .i64 (IntKind.i64.wrap x)) = some (.int .i64 y) ∧ Q (.ret (.int .i64 y)) h')))) := by kernel_rfl
theorem rdi_num {z : Prop} {p : Nat} {h : AHeap} {s : St2} (r : RdI z p h s) {mx : Nat} (hm : mx < 9223372036854775808) : SC PP 45 [ptr p, .int .i64 (.ofNat mx)] h (fun x h' => x = .ret (.int .i64 (.ofNat (rdNum mx s).1)) ∧ AftI p h (rdNum mx s).2 h') := by
  have hx : (rdU 8 s).1 < 18446744073709551616 := rdU_lt 8 s
  have hf : ∀ h' : AHeap, (rdU 8 s).2.2 = 0 → AftI p h (rdU 8 s).2 h' → SC PP 77 [ptr p, .int .i64 (.ofNat 5)] h' (fun r h2 => ∃ _ : Unit, r = .ret unit ∧ AftI p h ([], 5) h2) := fun h' h0 q =>
    (rdi_fail q.1 (e := 5) (by decide)).mono fun x h2 q2 => ⟨(), q2.1, by have := q2.2.1; rw [if_pos h0] at this; exact this, KeepR.step q.2 q2.2.2⟩
  apply orCall_sound E_ok mixed (.call (fun _ : Unit => .int .u64 (.ofNat (rdU 8 s).1)) (fun _ h' => AftI p h (rdU 8 s).2 h') fun _ _ => .val (.int .i64 (rdU 8 s).2.2) (.br (.br (.call (fun _ : Unit => unit) (fun _ h' => AftI p h ([], 5) h') fun _ _ => .stop) (.val (.int .i64 (IntKind.i64.wrap (.ofNat (rdU 8 s).1))) (.br (.call (fun _ : Unit => unit) (fun _ h' => AftI p h ([], 5) h') fun _ _ => .stop) (.val (.int .i64 (IntKind.i64.wrap (.ofNat (rdU 8 s).1))) .stop)))) (.val (.int .i64 (IntKind.i64.wrap (.ofNat (rdU 8 s).1))) .stop)))
  rw [numi_ev]
  refine ⟨(rdi_u r (.inr rfl)).mono fun x h' q => ⟨(), q⟩, fun _ h' q => ⟨q.1.load1, fun h0 => ?_, fun h0 => ⟨rfl, ?_⟩⟩⟩
  · have h0 := of_decide_eq_true h0
    refine ⟨fun hc => ⟨hf h' h0 q, fun _ h3 q3 => ?_⟩, fun hc => ⟨rfl, fun hc2 => ⟨hf h' h0 q, fun _ h3 q3 => ?_⟩, fun hc2 => ⟨rfl, ?_⟩⟩⟩
    · have hc := of_decide_eq_true hc
      have : rdNum mx s = (0, ([], 5)) := by
        unfold rdNum; rw [if_pos h0, if_neg]
        simp only [Int.ofNat_eq_natCast] at hc; omega
      rw [this]; exact ⟨rfl, q3⟩
    · have hc := of_decide_eq_false hc
      have hlt : (rdU 8 s).1 < 9223372036854775808 := by simp only [Int.ofNat_eq_natCast] at hc; omega
      have hc2 := of_decide_eq_true hc2
      rw [wrap_i64 hlt] at hc2
      have : rdNum mx s = (0, ([], 5)) := by
        unfold rdNum; rw [if_pos h0, if_neg]
        simp only [Int.ofNat_eq_natCast] at hc2; omega
      rw [this]; exact ⟨rfl, q3⟩
    · have hc := of_decide_eq_false hc
      have hlt : (rdU 8 s).1 < 9223372036854775808 := by simp only [Int.ofNat_eq_natCast] at hc; omega
      have hc2 := of_decide_eq_false hc2
      rw [wrap_i64 hlt] at hc2 ⊢
      have : rdNum mx s = rdU 8 s := by
        unfold rdNum; rw [if_pos h0, if_pos]
        simp only [Int.ofNat_eq_natCast] at hc2; omega
      rw [this]; exact ⟨rfl, q⟩
  · have h0 := of_decide_eq_false h0
    have : rdNum mx s = (0, (rdU 8 s).2) := by unfold rdNum; rw [if_neg h0]
    have hz : (rdU 8 s).1 = 0 := by
      unfold rdU at h0 ⊢
      split
      · rename_i l s' he
        rw [he] at h0
        exact absurd (nxt_inv he).2.1 h0
      · rfl
    rw [this, hz]; exact ⟨rfl, q⟩

theorem byi_ev0 (p : Nat) (x y mx e0 : Int) (h : AHeap) (c1 : Unit → AHeap → Prop) (Q : ARet → AHeap → Prop) : orCall PP E 47 [ptr p, .int .i64 mx] h
      (.call (fun _ : Unit => .int .u64 x) c1 fun _ _ => .val (.int .i64 y) (.val (.int .i64 e0) (.br .stop (.val (.int .i64 e0) (.br .stop (.val (.int .i64 e0) (.br .stop .stop))))))) Q =
    (SC PP 46 [ptr p, .int .i64 (.ofNat 4)] h (fun r h' => ∃ _ : Unit, r = .ret (.int .u64 x) ∧ c1 () h') ∧ ∀ (_ : Unit) (h' : AHeap), c1 () h' → (some (Value.int .i64 (IntKind.i64.wrap x)) = some (.int .i64 y) ∧ E.loadVar h' 3 p 1 = some (.int .i64 e0) ∧
      ((decide (e0 = 0) = true → False) ∧ (decide (e0 = 0) = false → E.loadVar h' 3 p 1 = some (.int .i64 e0) ∧ ((decide (e0 = 0) = true → False) ∧ (decide (e0 = 0) = false → E.loadVar h' 3 p 1 = some (.int .i64 e0) ∧
        (((!(e0 == 0)) = true → Q (.ret (.slice none 0 0)) h') ∧ ((!(e0 == 0)) = false → False)))))))) := by kernel_rfl
theorem E_load_keep {h h' : AHeap} {b : Nat} (e : h'.get b = h.get b) (t : TypeId) (o : Nat) : E.loadVar h' t b o = E.loadVar h t b o := by
  unfold Env.loadVar AHeap.load1
  split
  · split
    · rename_i d _
      cases aggD d with
      | true => simp only [cond_true, loadN_get e]
      | false => simp only [cond_false, e]
    · rfl
  · rfl
def byA (n m : Nat) (u w2 : Nat × Nat × Nat → Value) (x : Int) (c1 : Nat × Nat × Nat → AHeap → Prop) (c2 c4 : Unit → AHeap → Prop) (c3 : Nat × Nat × Nat → (Value × AHeap) → AHeap → Prop) : Ans :=
  (.call (fun _ : Nat × Nat × Nat => .int .u64 x) c1 fun a _ => .val (.int .i64 (.ofNat n)) (.val (.int .i64 (.ofNat 0)) (.nb (.br (.call (fun _ : Unit => unit) c2 fun _ _ => .val (.int .i64 (.ofNat 5)) (.nb (.val (.int .i64 (.ofNat 5)) (.nb .stop)))) (.val (.int .i64 (.ofNat 0)) (.nb (.val (.slice (some ⟨a.1, a.2.1, none⟩) m a.2.2) (.val (.int .i64 (.ofNat m)) (.br (.call (fun _ : Unit => unit) c4 fun _ _ => .val (.int .i64 (.ofNat 4)) (.nb .stop)) (.val (.int .i64 (.ofNat 0)) (.nb (.val (.slice (some ⟨a.1, a.2.1, none⟩) m a.2.2) (.val (u a) (.call (fun w : Value × AHeap => w.1) (c3 a) fun w _ => .val (.slice (some ⟨a.1, a.2.1, none⟩) m a.2.2) (.val (w2 a) (.eff undef w.2 .stop))))))))))))))))
theorem byi_ev (p n m : Nat) (u w2 : Nat × Nat × Nat → Value) (x mx : Int) (h : AHeap) (c1 : Nat × Nat × Nat → AHeap → Prop) (c2 c4 : Unit → AHeap → Prop) (c3 : Nat × Nat × Nat → (Value × AHeap) → AHeap → Prop) (Q : ARet → AHeap → Prop) : orCall PP E 47 [ptr p, .int .i64 mx] h
      (byA n m u w2 x c1 c2 c4 c3) Q =
    (SC PP 46 [ptr p, .int .i64 (.ofNat 4)] h (fun r h' => ∃ a : Nat × Nat × Nat, r = .ret (.int .u64 x) ∧ c1 a h') ∧ ∀ (a : Nat × Nat × Nat) (h' : AHeap), c1 a h' → (some (Value.int .i64 (IntKind.i64.wrap x)) = some (.int .i64 (.ofNat n)) ∧ E.loadVar h' 3 p 1 = some (.int .i64 (.ofNat 0)) ∧
      ((decide (Int.ofNat n > mx) = true → (SC PP 77 [ptr p, .int .i64 (.ofNat 5)] h' (fun r h' => ∃ _ : Unit, r = .ret unit ∧ c2 () h') ∧ ∀ (_ : Unit) (h2 : AHeap), c2 () h2 → E.loadVar h2 3 p 1 = some (.int .i64 (.ofNat 5)) ∧ E.loadVar h2 3 p 1 = some (.int .i64 (.ofNat 5)) ∧ Q (.ret (.slice none 0 0)) h2)) ∧
       (decide (Int.ofNat n > mx) = false → E.loadVar h' 3 p 1 = some (.int .i64 (.ofNat 0)) ∧ E.loadVar h' 50 p 0 = some (.slice (some ⟨a.1, a.2.1, none⟩) m a.2.2) ∧ some (Value.int .i64 (.ofNat m)) = some (Value.int .i64 (.ofNat m)) ∧
         ((decide (Int.ofNat n > Int.ofNat m) = true → (SC PP 77 [ptr p, .int .i64 (.ofNat 4)] h' (fun r h' => ∃ _ : Unit, r = .ret unit ∧ c4 () h') ∧ ∀ (_ : Unit) (h2 : AHeap), c4 () h2 → E.loadVar h2 3 p 1 = some (.int .i64 (.ofNat 4)) ∧ Q (.ret (.slice none 0 0)) h2)) ∧
          (decide (Int.ofNat n > Int.ofNat m) = false → E.loadVar h' 3 p 1 = some (.int .i64 (.ofNat 0)) ∧ E.loadVar h' 50 p 0 = some (.slice (some ⟨a.1, a.2.1, none⟩) m a.2.2) ∧ sl3 a.1 a.2.1 a.2.2 0 n = some (u a) ∧
            (SC PP 44 [.slice none 0 0, u a] h' (fun r h' => ∃ w : Value × AHeap, r = .ret w.1 ∧ c3 a w h') ∧ ∀ (w : Value × AHeap) (h2 : AHeap), c3 a w h2 → E.loadVar h2 50 p 0 = some (.slice (some ⟨a.1, a.2.1, none⟩) m a.2.2) ∧ sl3 a.1 a.2.1 a.2.2 n m = some (w2 a) ∧ E.storeVar h2 50 p 0 (w2 a) = some w.2 ∧ undef = undef ∧ Q (.ret w.1) w.2))))))) := by kernel_rfl

/-- The bytes of a slice, and what the reader keeps. -/
theorem rdi_by {z : Prop} {p : Nat} {h : AHeap} {s : St2} (r : RdI z p h s) {mx : Nat} (hm : mx < 4294967296) : SC PP 47 [ptr p, .int .i64 (.ofNat mx)] h (fun x h' => (∃ w, x = .ret w ∧ Own h.next h' w (bys (rdBy mx s).1)) ∧ AftI p h (rdBy mx s).2 h') := by
  have hx : (rdU 4 s).1 < 4294967296 := rdU_lt 4 s
  have hw : some (Value.int .i64 (IntKind.i64.wrap (.ofNat (rdU 4 s).1))) = some (Value.int .i64 (.ofNat (rdU 4 s).1)) := by rw [wrap_i64 (n := (rdU 4 s).1) (by omega)]
  by_cases h0 : (rdU 4 s).2.2 = 0
  · apply orCall_sound E_ok mixed (byA (rdU 4 s).1 (rdU 4 s).2.1.length (fun a => .slice (some ⟨a.1, a.2.1, none⟩) (rdU 4 s).1 a.2.2) (fun a => .slice (some ⟨a.1, a.2.1 + (rdU 4 s).1 * 1, none⟩) ((bys (rdU 4 s).2.1).length - (rdU 4 s).1) (subCap a.2.2 (rdU 4 s).1 none)) (.ofNat (rdU 4 s).1)
      (fun a h' => AftI p h (rdU 4 s).2 h' ∧ E.loadVar h' 50 p 0 = some (.slice (some ⟨a.1, a.2.1, none⟩) (rdU 4 s).2.1.length a.2.2) ∧ SlX p p h' (.slice (some ⟨a.1, a.2.1, none⟩) (rdU 4 s).2.1.length a.2.2) (bys (rdU 4 s).2.1))
      (fun _ h' => AftI p h ([], 5) h') (fun _ h' => AftI p h ([], 4) h')
      (fun a w h2 => E.loadVar h2 50 p 0 = some (.slice (some ⟨a.1, a.2.1, none⟩) (rdU 4 s).2.1.length a.2.2) ∧ sl3 a.1 a.2.1 a.2.2 (rdU 4 s).1 (rdU 4 s).2.1.length = some (.slice (some ⟨a.1, a.2.1 + (rdU 4 s).1 * 1, none⟩) ((bys (rdU 4 s).2.1).length - (rdU 4 s).1) (subCap a.2.2 (rdU 4 s).1 none)) ∧ E.storeVar h2 50 p 0 (.slice (some ⟨a.1, a.2.1 + (rdU 4 s).1 * 1, none⟩) ((bys (rdU 4 s).2.1).length - (rdU 4 s).1) (subCap a.2.2 (rdU 4 s).1 none)) = some w.2 ∧ Own h.next w.2 w.1 (bys (rdBy mx s).1) ∧ AftI p h (rdBy mx s).2 w.2))
    rw [byi_ev]
    refine ⟨(rdi_u r (.inl rfl)).mono ?_, ?_⟩
    · rintro x h' ⟨rfl, q⟩
      obtain ⟨v, hv, hr⟩ := q.1.load0
      have hx : SlX p p h' v (bys (rdU 4 s).2.1) := by
        rcases hr with ⟨hz, _⟩ | hx
        · exact hz.elim (fun h => h.elim) (fun h => absurd h0 h)
        · exact hx
      have hx' := hx
      cases hx' with
      | row g1 g2 g3 g4 g5 g6 =>
        rename_i b o k
        rw [bys_length] at hv hx
        exact ⟨(b, o, k), rfl, q, hv, hx⟩
    · rintro ⟨b, o, k⟩ h' ⟨q, hv, hx⟩
      have hl0 : E.loadVar h' 3 p 1 = some (.int .i64 (.ofNat 0)) := by rw [q.1.load1, h0]; rfl
      refine ⟨hw, hl0, fun hc => ⟨(rdi_fail q.1 (e := 5) (by decide)).mono fun x h2 q2 => ⟨(), q2.1, by have := q2.2.1; rw [if_pos h0] at this; exact this, KeepR.step q.2 q2.2.2⟩, fun _ h2 q2 => ⟨q2.1.load1, q2.1.load1, ?_⟩⟩, fun hc => ⟨hl0, hv, rfl, fun hc2 => ⟨(rdi_fail q.1 (e := 4) (by decide)).mono fun x h2 q2 => ⟨(), q2.1, by have := q2.2.1; rw [if_pos h0] at this; exact this, KeepR.step q.2 q2.2.2⟩, fun _ h2 q2 => ⟨q2.1.load1, ?_⟩⟩, fun hc2 => ⟨hl0, hv, ?_⟩⟩⟩
      · have hc : mx < (rdU 4 s).1 := Int.ofNat_lt.1 (of_decide_eq_true hc)
        have : rdBy mx s = ([], ([], 5)) := by unfold rdBy; rw [if_pos h0, if_neg (by omega)]
        rw [this]; exact ⟨⟨_, rfl, .nil⟩, q2⟩
      · have hc : ¬ mx < (rdU 4 s).1 := fun hh => of_decide_eq_false hc (Int.ofNat_lt.2 hh)
        have hc2 : (rdU 4 s).2.1.length < (rdU 4 s).1 := Int.ofNat_lt.1 (of_decide_eq_true hc2)
        have : rdBy mx s = ([], ([], 4)) := by
          unfold rdBy nxt; rw [if_pos h0, if_pos (by omega), if_pos h0, if_neg (by omega)]
        rw [this]; exact ⟨⟨_, rfl, .nil⟩, q2⟩
      · have hc : ¬ mx < (rdU 4 s).1 := fun hh => of_decide_eq_false hc (Int.ofNat_lt.2 hh)
        have hc2 : ¬ (rdU 4 s).2.1.length < (rdU 4 s).1 := fun hh => of_decide_eq_false hc2 (Int.ofNat_lt.2 hh)
        have hby : rdBy mx s = ((rdU 4 s).2.1.take (rdU 4 s).1, ((rdU 4 s).2.1.drop (rdU 4 s).1, 0)) := by
          unfold rdBy nxt; rw [if_pos h0, if_pos (by omega), if_pos h0, if_pos (by omega)]
        obtain ⟨_, g8, g9, g10, g11⟩ := slx_parts hx (n := (rdU 4 s).1) (by rw [bys_length]; omega)
        rw [bys_take] at g9
        rw [bys_drop] at g11
        refine ⟨g8, (both_ok (l := []) .nil (g9.sl.mono (Nat.le_of_lt q.1.lt)) (by rw [List.length_take]; simp; omega)).mono ?_, fun w h2 q2 => ⟨q2.1, q2.2.1, q2.2.2.1, rfl, ⟨_, rfl, q2.2.2.2.1⟩, q2.2.2.2.2⟩⟩
        rintro x h2 ⟨w, rfl, ow, kw⟩
        rw [List.nil_append] at ow
        have r2 := q.1.keep kw q.1.lt
        have g12 := g11.keep ((kw.keepR p).mono (Nat.le_of_lt q.1.lt)) (Nat.le_refl _)
        obtain ⟨h3, e3, r3, k3⟩ := r2.store0 (z' := False) (l := (rdU 4 s).2.1.drop (rdU 4 s).1) (.inl h0) (.inr g12)
        have hv2 : E.loadVar h2 50 p 0 = some (.slice (some ⟨b, o, none⟩) (rdU 4 s).2.1.length k) := by
          have := E_load_keep (kw.get p q.1.lt) 50 0
          rw [this]; exact hv
        refine ⟨(w, h3), rfl, hv2, g10, e3, ?_, ?_⟩
        · rw [hby]
          exact own_after (ow.mono q.2.next) (k3) (by have := r.lt; omega)
        · rw [hby]
          refine ⟨by rw [h0] at r3; exact r3, ?_⟩
          exact KeepR.step (KeepR.step q.2 (kw.keepR p)) k3
  · apply orCall_sound E_ok mixed (.call (fun _ : Unit => .int .u64 (.ofNat (rdU 4 s).1)) (fun _ h' => AftI p h (rdU 4 s).2 h') fun _ _ => .val (.int .i64 (.ofNat (rdU 4 s).1)) (.val (.int .i64 (rdU 4 s).2.2) (.br .stop (.val (.int .i64 (rdU 4 s).2.2) (.br .stop (.val (.int .i64 (rdU 4 s).2.2) (.br .stop .stop)))))))
    rw [byi_ev0]
    refine ⟨(rdi_u r (.inl rfl)).mono fun x h' q => ⟨(), q⟩, fun _ h' q => ⟨hw, q.1.load1, fun hc => absurd (of_decide_eq_true hc) h0, fun _ => ⟨q.1.load1, fun hc => absurd (of_decide_eq_true hc) h0, fun _ => ⟨q.1.load1, fun _ => ?_, fun hc => ?_⟩⟩⟩⟩
    · have : rdBy mx s = ([], (rdU 4 s).2) := by unfold rdBy; rw [if_neg h0]
      rw [this]; exact ⟨⟨_, rfl, .nil⟩, q⟩
    · exact absurd (by simpa using hc) h0
end
end Go.Proofs.YtkkbpknpongmfaaGreatDoor

/- sess.Encode, and the document's. -/
namespace Go.Proofs.YtkkbpknpongmfaaGreatDoor
open Go Go.Abs Classical
noncomputable section
theorem byteCells_bys (l : List UInt8) : byteCells ⟨⟨l⟩⟩ = bys l := by
  simp [byteCells, bys]
def convB (h : AHeap) (l : List UInt8) : Option (Value × AHeap) := bif Nat.blt (ByteArray.mk ⟨l⟩).size 4294967296 then some (freshV h (ByteArray.mk ⟨l⟩).size, h.freshS [] (byteCells ⟨⟨l⟩⟩) 1) else none
theorem convB_ok {h : AHeap} {l : List UInt8} (hl : l.length < 4294967296) : ∃ u h', convB h l = some (u, h') ∧ Own h.next h' u (bys l) ∧ Keep h.next h h' := by
  refine ⟨freshV h l.length, h.freshS [] (bys l) 1, ?_, ?_, (keep_fresh (fun b => h.next ≤ b) [] (bys l)).keep (Nat.le_refl _)⟩
  · unfold convB
    rw [byteCells_bys, show (ByteArray.mk ⟨l⟩).size = l.length from rfl, show Nat.blt l.length 4294967296 = true from Nat.ble_eq_true_of_le hl]
    rfl
  · have := own_fresh (F := fun b => h.next ≤ b) (h := h) (fun b hb => hb) (l := bys l) [] (fun s hs => by cases hs) (by rw [bys_length]; exact hl)
    rwa [bys_length] at this
theorem _root_.Go.Abs.Sl.eqV {B : Nat} {h : AHeap} {v : Value} {l : List Value} (s : Sl B h v l) : Go.Abs.eqV 6 v v = true := by
  cases s with
  | nil => rfl
  | row => simp [Go.Abs.eqV, eqAddr]
theorem SlG.eqV {B : Nat} {h : AHeap} {v : Value} {cs : List Ws} (s : SlG B h v cs) : Go.Abs.eqV 6 v v = true := by
  obtain ⟨lv, h1, _⟩ := s.ex
  exact h1.eqV
theorem Grp.load0 {q : Nat} {h : AHeap} {N M : Int} {cv : Value} (g : Grp q h N M cv) : E.loadVar h 3 q 0 = some (.int .i64 N) := by
  obtain ⟨cs, hg, h0, _, _⟩ := g.get
  exact load_cell ti3 un3 rfl hg h0
theorem Grp.load1 {q : Nat} {h : AHeap} {N M : Int} {cv : Value} (g : Grp q h N M cv) : E.loadVar h 3 q 1 = some (.int .i64 M) := by
  obtain ⟨cs, hg, _, h1, _⟩ := g.get
  exact load_cell ti3 un3 rfl hg h1

/-! Lengths. -/
theorem eWs_snoc {c : Ws} {j : Nat} (hj : j < c.length) : eWs (c.take (j + 1)) = eWs (c.take j) ++ eW c[j] := by
  rw [List.take_add_one, List.getElem?_eq_getElem hj, eWs_append]
  congr 1
  simp [eWs]
theorem eCs_snoc {cs : List Ws} {i : Nat} (hi : i < cs.length) : eCs (cs.take (i + 1)) = eCs (cs.take i) ++ eC cs[i] := by
  rw [List.take_add_one, List.getElem?_eq_getElem hi, eCs_append]
  congr 1
  simp [eCs]
theorem eWs_le {c : Ws} {j : Nat} (hj : j < c.length) : (eWs (c.take j)).length + (eW c[j]).length ≤ (eWs c).length := by
  conv => rhs; rw [← List.take_append_drop (j + 1) c]
  rw [eWs_append, eWs_snoc hj]
  simp only [List.length_append]; omega
theorem eCs_le {cs : List Ws} {i : Nat} (hi : i < cs.length) : (eCs (cs.take i)).length + (eC cs[i]).length ≤ (eCs cs).length := by
  conv => rhs; rw [← List.take_append_drop (i + 1) cs]
  rw [eCs_append, eCs_snoc hi]
  simp only [List.length_append]; omega

/-! sess.Encode -/
abbrev fr13 (w cv : Value) (n i : Nat) : AFr := fr 43 [(3, w), (20, cv), (21, .int .i64 (.ofNat n)), (22, .int .i64 (.ofNat i))]
abbrev fr13i (w cv : Value) (n i : Nat) (u : Value) (k j : Nat) : AFr := fr 43 [(3, w), (20, cv), (21, .int .i64 (.ofNat n)), (22, .int .i64 (.ofNat i)), (30, u), (31, .int .i64 (.ofNat k)), (32, .int .i64 (.ofNat j))]
theorem enc_in_ev (w cv u : Value) (n i k j b o : Nat) (l : List UInt8) (u' : Value) (h h1 : AHeap) (c : Value → AHeap → Prop) (R : AExit → AFr → AHeap → Prop) : orC PP E (bodyOf 13 1) (fr13i w cv n i u k j) h
      (.br (.val (pto b o) (.val (str l) (.eff u' h1 (.call (fun v : Value => v) c fun _ _ => .stop)))) .stop) (fun x f h' _ => R x (keepF [3,20,21,22,30,31,32] f) h') =
    ((decide (Int.ofNat j < Int.ofNat k) = true → E.vIndexAddr 23 u j = some (pto b o) ∧ E.loadVar h 9 b o = some (str l) ∧ convB h l = some (u', h1) ∧ SC PP 34 [w, u'] h1 (fun r h' => ∃ v : Value, r = .ret v ∧ c v h') ∧ ∀ (v : Value) (h' : AHeap), c v h' →
        R .normal (fr 43 [(3, v), (20, cv), (21, .int .i64 (.ofNat n)), (22, .int .i64 (.ofNat i)), (30, u), (31, .int .i64 (.ofNat k)), (32, .int .i64 (IntKind.i64.wrap (.ofNat j.succ)))]) h') ∧
     (decide (Int.ofNat j < Int.ofNat k) = false → R (.exit 2) (fr13i w cv n i u k j) h)) := by kernel_rfl
theorem enc_out_ev (w cv u : Value) (n i k b o : Nat) (h : AHeap) (c : Value → AHeap → Prop) (ci : Value → Value → AHeap → Prop) (R : AExit → AFr → AHeap → Prop) : orC PP E (bodyOf 13 0) (fr13 w cv n i) h
      (.br (.val (pto b o) (.val u (.val (.int .i64 (.ofNat k)) (.call (fun v : Value => v) c fun v1 _ => .val (.int .i64 (.ofNat k)) (.loop [3,20,21,22,30,31,32] 2 (fun v : Value => fr13 v cv n i) (ci v1) (fun _ _ => .stop) (fun _ : Unit => fr 43 []) (fun _ _ => False) (fun _ _ => .stop)))))) .stop) (fun x f h' _ => R x (keepF [3,20,21,22] f) h') =
    ((decide (Int.ofNat i < Int.ofNat n) = true → E.vIndexAddr 30 cv i = some (pto b o) ∧ E.loadVar h 23 b o = some u ∧ lenS 9 u h = some (.int .i64 (.ofNat k)) ∧ SC PP 32 [w, .int .i64 (.ofNat k)] h (fun r h' => ∃ v : Value, r = .ret v ∧ c v h') ∧ ∀ (v1 : Value) (h1 : AHeap), c v1 h1 → lenS 9 u h1 = some (.int .i64 (.ofNat k)) ∧
        ((∀ rd, SW PP rd (.loop (bodyOf 13 1)) (fr13i v1 cv n i u k 0) h1 (LQ 2 (fun v : Value => fr13 v cv n i) (ci v1) (fun _ : Unit => fr 43 []) (fun _ _ => False))) ∧
         (∀ (v2 : Value) (h2 : AHeap), ci v1 v2 h2 → R .normal (fr 43 [(3, v2), (20, cv), (21, .int .i64 (.ofNat n)), (22, .int .i64 (IntKind.i64.wrap (.ofNat i.succ)))]) h2) ∧
         ∀ (_ : Unit) (h2 : AHeap), False → R .ret (fr 43 []) h2)) ∧
     (decide (Int.ofNat i < Int.ofNat n) = false → R (.exit 0) (fr13 w cv n i) h)) := by kernel_rfl

theorem byteAt_nat (n i : Nat) : byteAt (.ofNat n) i = .int .u8 (.ofNat ((UInt8.ofNat (n / 256 ^ i)).toNat)) := by
  unfold byteAt
  have hp : (2 : Int) ^ (8 * i) = ((256 ^ i : Nat) : Int) := by rw [Int.pow_mul, Int.natCast_pow]; rfl
  have h1 : (Int.ofNat n).fdiv (2 ^ (8 * i)) = Int.ofNat (n / 256 ^ i) := by
    rw [hp, Int.fdiv_eq_ediv_of_nonneg _ (Int.natCast_nonneg _)]
    exact (Int.natCast_ediv n (256 ^ i)).symm
  rw [h1]
  have h2 : (UInt8.ofNat (n / 256 ^ i)).toNat = n / 256 ^ i % 256 := by simp
  rw [h2]
  generalize n / 256 ^ i = m
  congr 1
theorem be8_bts (n : Nat) : be8 (.ofNat n) = bys (bts 8 n) := by
  unfold be8
  simp only [byteAt_nat]
  rfl
theorem be4_bts (n : Nat) : be4 (.ofNat n) = bys (bts 4 n) := by
  unfold be4
  simp only [byteAt_nat]
  rfl
theorem numU_nat {n : Int} (hn : n < 9223372036854775808) : numU n = .ofNat (numN n) := by
  unfold numU
  by_cases h : n < 0
  · rw [show (Int.decLt n 0).decide = true from decide_eq_true h]
    have : numN n = 0 := by unfold numN; omega
    rw [this]; rfl
  · rw [show (Int.decLt n 0).decide = false from decide_eq_false h]
    exact wrap_numN h hn
theorem putNumB {h : AHeap} {b : Value} {l : List UInt8} {n : Int} (hb : Sl h.next h b (bys l)) (hn : n < 9223372036854775808) (hl : l.length + 8 < 4294967296) : SC PP 32 [b, .int .i64 n] h (GivesB h (l ++ bts 8 (numN n))) := by
  have := putNum (n := n) hb (bys_one l) (by rw [bys_length]; exact hl)
  rw [numU_nat hn, be8_bts, ← bys_append] at this
  exact this
theorem put64B {h : AHeap} {b : Value} {l : List UInt8} {n : Nat} (hb : Sl h.next h b (bys l)) (hl : l.length + 8 < 4294967296) : SC PP 33 [b, .int .u64 (.ofNat n)] h (GivesB h (l ++ bts 8 n)) := by
  have := put64 (x := .ofNat n) hb (bys_one l) (by rw [bys_length]; exact hl)
  rw [be8_bts, ← bys_append] at this
  exact this
theorem putB {h : AHeap} {b s : Value} {l ls : List UInt8} (hb : Sl h.next h b (bys l)) (hs : Sl h.next h s (bys ls)) (hl : l.length + 4 + ls.length < 4294967296) : SC PP 34 [b, s] h (GivesB h (l ++ eW ls)) := by
  have := put hb hs (bys_one l) (bys_one ls) (by rw [bys_length, bys_length]; exact hl)
  rw [bys_length, show lenU ls.length = .ofNat ls.length from wrap_u32 (by omega), be4_bts, ← bys_append, ← bys_append, List.append_assoc] at this
  exact this

theorem own_keep {F : Nat → Prop} {h h' : AHeap} {v : Value} {l : List Value} (o : OwnF F h v l) (k : Keep h.next h h') : OwnF F h' v l := by
  cases o with
  | nil => exact .nil
  | row h1 h2 h3 h4 h5 h6 h7 => exact .row h1 (Nat.lt_of_lt_of_le h2 k.next) (fun s hs => ⟨(h3 s hs).1, Nat.lt_of_lt_of_le (h3 s hs).2 k.next⟩) ⟨h4.1, Nat.lt_of_lt_of_le h4.2 k.next⟩ ((k.gr _ h4.2).trans h5) (by rw [k.get _ h2]; exact h6) h7
/-- What the loops keep: what was there, and what was put so far. -/
structure Put (B : Nat) (H : AHeap) (w : Value) (l : List UInt8) (h : AHeap) : Prop where
  own : Own B h w (bys l)
  keep : Keep B H h
  le : B ≤ h.next
theorem Put.step {B : Nat} {H : AHeap} {w : Value} {l m : List UInt8} {h h' : AHeap} (t : Put B H w l h) {v : Value} (g : GivesB h m (.ret v) h') : Put B H v m h' := by
  obtain ⟨v', e, o, k⟩ := g
  cases e
  exact ⟨o.mono t.le, t.keep.trans (k.mono t.le), Nat.le_trans t.le k.next⟩
theorem Put.sl {B : Nat} {H : AHeap} {w : Value} {l : List UInt8} {h : AHeap} (t : Put B H w l h) : Sl h.next h w (bys l) := t.own.sl
theorem Put.mono {B : Nat} {H : AHeap} {w : Value} {l : List UInt8} {h h' : AHeap} (t : Put B H w l h) (k : Keep h.next h h') : Sl h'.next h' w (bys l) := t.own.sl.keep k k.next

theorem enc_in {w cv u : Value} {n i B : Nat} {c : Ws} {pre : List UInt8} {H h : AHeap} {rd : Option Nat} (hu : Sl B H u (c.map str)) (t : Put B H w pre h) (hc : c.length < 9223372036854775807) (hl : pre.length + (eWs c).length < 4294967296) :
    SW PP rd (.loop (bodyOf 13 1)) (fr13i w cv n i u c.length 0) h (LQ 2 (fun v : Value => fr13 v cv n i) (fun v h' => Put B H v (pre ++ eWs c) h') (fun _ : Unit => fr 43 []) (fun _ _ => False)) := by
  refine loop_or [3,20,21,22,30,31,32] (fun k f h => ∃ j w, j + k = c.length ∧ f = fr13i w cv n i u c.length j ∧ Put B H w (pre ++ eWs (c.take j)) h) ?_ (k := c.length) ⟨0, w, by omega, rfl, by simpa [eWs] using t⟩
  rintro k f h ⟨j, w, hk, rfl, t⟩
  by_cases hj : j < c.length
  · obtain ⟨b, o, hb, e1, e2⟩ := Sl.atS (hu.keep t.keep t.le) j hj
    have hle := eWs_le hj
    have hlw : (c[j]).length + 4 = (eW c[j]).length := by simp [eW, bts_len]; omega
    obtain ⟨u', h1, e3, o3, k3⟩ := convB_ok (h := h) (l := c[j]) (by omega)
    refine ⟨.br (.val (pto b o) (.val (str c[j]) (.eff u' h1 (.call (fun v : Value => v) (fun v h' => Put B H v (pre ++ eWs (c.take (j + 1))) h') fun _ _ => .stop)))) .stop, ?_⟩
    rw [enc_in_ev]
    refine ⟨fun _ => ⟨e1, e2, e3, ?_, ?_⟩, fun hc => absurd (Int.ofNat_lt.2 hj) (of_decide_eq_false hc)⟩
    · have t1 : Put B H w (pre ++ eWs (c.take j)) h1 := ⟨(by
          have := t.own
          exact own_keep this k3), t.keep.trans (k3.mono t.le), Nat.le_trans t.le k3.next⟩
      refine (putB t1.sl o3.sl (by simp only [List.length_append]; omega)).mono ?_
      rintro x h' ⟨v, rfl, g⟩
      refine ⟨v, rfl, ?_⟩
      have := t1.step (v := v) ⟨v, rfl, g⟩
      rwa [List.append_assoc, ← eWs_snoc hj] at this
    · intro v h' q
      refine ⟨k - 1, by omega, j + 1, v, by omega, ?_, q⟩
      rw [wrap_succ (by omega)]
  · refine ⟨.br (.val (pto 0 0) (.val (str []) (.eff undef h (.call (fun v : Value => v) (fun _ _ => False) fun _ _ => .stop)))) .stop, ?_⟩
    rw [enc_in_ev]
    refine ⟨fun hc => absurd (Int.ofNat_lt.1 (of_decide_eq_true hc)) hj, fun _ => ?_⟩
    obtain rfl : j = c.length := by omega
    rw [List.take_length] at t
    exact .inl ⟨rfl, w, (show Less (keepF [3,20,21,22] (fr13i w cv n i u c.length c.length)) _ from keepF_less _ _), t⟩

theorem natN (n : Nat) : numN (.ofNat n) = n := by unfold numN; simp
theorem enc_out {w cv : Value} {B : Nat} {cs : List Ws} {pre : List UInt8} {H h : AHeap} {rd : Option Nat} (hg : SlG B H cv cs) (t : Put B H w pre h) (hc : cs.length < 9223372036854775807) (hcl : ∀ c ∈ cs, c.length < 9223372036854775807) (hl : pre.length + (eCs cs).length < 4294967296) :
    SW PP rd (.loop (bodyOf 13 0)) (fr13 w cv cs.length 0) h (LQ 0 (fun v : Value => fr 43 [(3, v)]) (fun v h' => Put B H v (pre ++ eCs cs) h') (fun _ : Unit => fr 43 []) (fun _ _ => False)) := by
  refine loop_or [3,20,21,22] (fun k f h => ∃ i w, i + k = cs.length ∧ f = fr13 w cv cs.length i ∧ Put B H w (pre ++ eCs (cs.take i)) h) ?_ (k := cs.length) ⟨0, w, by omega, rfl, by simpa [eCs] using t⟩
  rintro k f h ⟨i, w, hk, rfl, t⟩
  by_cases hi : i < cs.length
  · obtain ⟨b, o, u, hb, e1, e2', hs⟩ := hg.at i hi
    have e2 : E.loadVar h 23 b o = some u := (E_load_keep (t.keep.get b hb) 23 o).trans e2'
    have e3 := hs.keep t.keep t.le
    have hle := eCs_le hi
    have hlc : 8 + (eWs cs[i]).length = (eC cs[i]).length := by simp [eC, bts_len]
    have hci := hcl cs[i] (List.getElem_mem _)
    refine ⟨.br (.val (pto b o) (.val u (.val (.int .i64 (.ofNat (cs[i]).length)) (.call (fun v : Value => v) (fun v h' => Put B H v (pre ++ eCs (cs.take i) ++ bts 8 (cs[i]).length) h' ∧ Keep h.next h h') fun v1 _ => .val (.int .i64 (.ofNat (cs[i]).length)) (.loop [3,20,21,22,30,31,32] 2 (fun v : Value => fr13 v cv cs.length i) (fun v h' => Put B H v (pre ++ eCs (cs.take (i + 1))) h') (fun _ _ => .stop) (fun _ : Unit => fr 43 []) (fun _ _ => False) (fun _ _ => .stop)))))) .stop, ?_⟩
    rw [enc_out_ev (ci := fun _ v h' => Put B H v (pre ++ eCs (cs.take (i + 1))) h')]
    refine ⟨fun _ => ⟨e1, e2, Sl.lenS e3 9, ?_, ?_⟩, fun hc => absurd (Int.ofNat_lt.2 hi) (of_decide_eq_false hc)⟩
    · refine (putNumB t.sl (n := .ofNat (cs[i]).length) (by simp only [Int.ofNat_eq_natCast]; omega) (by simp only [List.length_append]; omega)).mono ?_
      rintro x h' g
      obtain ⟨v, rfl, o, k⟩ := id g
      refine ⟨v, rfl, ?_, k⟩
      have := t.step g
      rwa [natN] at this
    · rintro v1 h1 ⟨q, k1⟩
      refine ⟨Sl.lenS e3 9, fun rd => ?_, ?_, fun _ _ e => e.elim⟩
      · refine (enc_in (n := cs.length) (i := i) (cv := cv) hs q hci (by simp only [List.length_append, bts_len]; omega)).mono ?_
        intro x f h' q
        refine LQ.mono q (fun v q => ⟨v, rfl, ?_⟩) (fun b q => q.elim)
        rw [eCs_snoc hi]
        simpa [eC, List.append_assoc] using q
      · intro v2 h2 q2
        refine ⟨k - 1, by omega, i + 1, v2, by omega, ?_, q2⟩
        rw [wrap_succ (by omega)]
  · refine ⟨.br (.val (pto 0 0) (.val undef (.val (.int .i64 (.ofNat 0)) (.call (fun v : Value => v) (fun _ _ => False) fun _ _ => .val (.int .i64 (.ofNat 0)) (.loop [3,20,21,22,30,31,32] 2 (fun v : Value => fr13 v cv cs.length i) (fun _ _ => False) (fun _ _ => .stop) (fun _ : Unit => fr 43 []) (fun _ _ => False) (fun _ _ => .stop)))))) .stop, ?_⟩
    rw [enc_out_ev (ci := fun _ _ _ => False)]
    refine ⟨fun hc => absurd (Int.ofNat_lt.1 (of_decide_eq_true hc)) hi, fun _ => ?_⟩
    obtain rfl : i = cs.length := by omega
    rw [List.take_length] at t
    exact .inl ⟨rfl, w, (show Less (keepF [3] (fr13 w cv cs.length cs.length)) _ from keepF_less _ _), t⟩

def encA (N D : Int) (d : Nat) (cv : Value) (n : Nat) (c1 : Value → AHeap → Prop) (c2 : Value → Value → AHeap → Prop) (c3 : Value → AHeap → Prop) (cl : Value → Value → AHeap → Prop) : Ans :=
  .val (.int .i64 N) (.val (.int .i64 D) (.val (.int .u64 (.ofNat d)) (.val cv (.val (.int .i64 (.ofNat n)) (.call (fun v : Value => v) c1 fun v1 _ => .val (.int .i64 (.ofNat n)) (.val cv (.val (.int .u64 (.ofNat d)) (.val (.int .i64 D) (.call (fun v : Value => v) (c2 v1) fun _ _ => .val (.int .i64 (.ofNat n)) (.val cv (.call (fun v : Value => v) c3 fun v3 _ => .val cv (.val (.int .i64 (.ofNat n))
    (.loop [3, 20, 21, 22] 0 (fun w : Value => fr 43 [(3, w)]) (cl v3) (fun _ _ => .stop) (fun _ : Unit => fr 43 []) (fun _ _ => False) (fun _ _ => .stop))))))))))))))
theorem enc_ev (N D : Int) (d : Nat) (cv : Value) (n : Nat) (h : AHeap) (c1 : Value → AHeap → Prop) (c2 : Value → Value → AHeap → Prop) (c3 : Value → AHeap → Prop) (cl : Value → Value → AHeap → Prop) (Q : ARet → AHeap → Prop) : orCall PP E 13 [.agg #[.int .i64 N, .int .i64 D, cv]] h (encA N D d cv n c1 c2 c3 cl) Q =
    (E.loadVar (h.row [.int .i64 N, .int .i64 D, cv]) 3 h.next 0 = some (.int .i64 N) ∧ E.loadVar (h.row [.int .i64 N, .int .i64 D, cv]) 3 h.next 1 = some (.int .i64 D) ∧ some (Value.int .u64 (IntKind.u64.wrap D)) = some (.int .u64 (.ofNat d)) ∧ E.loadVar (h.row [.int .i64 N, .int .i64 D, cv]) 30 h.next 2 = some cv ∧
      lenS 23 cv (h.row [.int .i64 N, .int .i64 D, cv]) = some (.int .i64 (.ofNat n)) ∧ SC PP 32 [.slice none 0 0, .int .i64 N] (h.row [.int .i64 N, .int .i64 D, cv]) (fun r h' => ∃ v : Value, r = .ret v ∧ c1 v h') ∧ ∀ (v1 : Value) (h1 : AHeap), c1 v1 h1 →
        (lenS 23 cv h1 = some (.int .i64 (.ofNat n)) ∧ decide (Int.ofNat n = Int.ofNat n) = true ∧ E.loadVar h1 30 h.next 2 = some cv ∧ Go.Abs.eqV 6 cv cv = true ∧ some (Value.int .u64 (IntKind.u64.wrap D)) = some (.int .u64 (.ofNat d)) ∧ decide (Int.ofNat d = Int.ofNat d) = true ∧ E.loadVar h1 3 h.next 1 = some (.int .i64 D) ∧ decide (D = D) = true ∧
          SC PP 33 [v1, .int .u64 (.ofNat d)] h1 (fun r h' => ∃ v : Value, r = .ret v ∧ c2 v1 v h') ∧ ∀ (v2 : Value) (h2 : AHeap), c2 v1 v2 h2 →
            (lenS 23 cv h2 = some (.int .i64 (.ofNat n)) ∧ decide (Int.ofNat n = Int.ofNat n) = true ∧ E.loadVar h2 30 h.next 2 = some cv ∧ Go.Abs.eqV 6 cv cv = true ∧ SC PP 32 [v2, .int .i64 (.ofNat n)] h2 (fun r h' => ∃ v : Value, r = .ret v ∧ c3 v h') ∧ ∀ (v3 : Value) (h3 : AHeap), c3 v3 h3 →
              (E.loadVar h3 30 h.next 2 = some cv ∧ lenS 23 cv h3 = some (.int .i64 (.ofNat n)) ∧
                ((∀ rd, SW PP rd (.loop (bodyOf 13 0)) (fr13 v3 cv n 0) h3 (LQ 0 (fun v : Value => fr 43 [(3, v)]) (cl v3) (fun _ : Unit => fr 43 []) (fun _ _ => False))) ∧
                 (∀ (v : Value) (h4 : AHeap), cl v3 v h4 → Q (.ret v) h4) ∧ ∀ (_ : Unit) (_ : AHeap), False → False))))) := by kernel_rfl

/-- A number of 64 bits, as it is put. -/
def numD (D : Int) : Nat := (IntKind.u64.wrap D).toNat
theorem wrap_numD (D : Int) : IntKind.u64.wrap D = .ofNat (numD D) ∧ numD D < 18446744073709551616 := by
  unfold numD
  have h : 0 ≤ IntKind.u64.wrap D ∧ IntKind.u64.wrap D < 18446744073709551616 := by
    unfold IntKind.wrap
    have : (2 ^ IntKind.u64.bits : Int) = 18446744073709551616 := rfl
    simp only [show IntKind.u64.signed = false from rfl, Bool.false_and, Bool.false_eq_true, if_false, this]
    omega
  refine ⟨?_, by omega⟩
  simp only [Int.ofNat_eq_natCast]; omega
/-- What is put of a group. -/
abbrev encG (N D : Int) (cs : List Ws) : List UInt8 := eG (numN N) (numD D) cs
theorem encG_len (N D : Int) (cs : List Ws) : (encG N D cs).length = 24 + (eCs cs).length := by
  simp only [encG, eG, List.length_append, bts_len]
structure GrpOk (N : Int) (cs : List Ws) : Prop where
  hN : N < 9223372036854775808
  hcs : cs.length < 9223372036854775807
  hc : ∀ c ∈ cs, c.length < 9223372036854775807
  hlen : 24 + (eCs cs).length < 4294967296
theorem enc_ok {h : AHeap} {N D : Int} {cv : Value} {cs : List Ws} (hg : SlG h.next h cv cs) (ok : GrpOk N cs) : SC PP 13 [.agg #[.int .i64 N, .int .i64 D, cv]] h (GivesB h (encG N D cs)) := by
  have hrow := row_keep h [.int .i64 N, .int .i64 D, cv]
  have hnx : (h.row [.int .i64 N, .int .i64 D, cv]).next = h.next + 1 := rfl
  have g0 := Grp.row h N D cv
  have hgr : SlG (h.next + 1) (h.row [.int .i64 N, .int .i64 D, cv]) cv cs := hg.keep hrow (Nat.le_succ _)
  have hN := ok.hN
  have hlen := ok.hlen
  apply orCall_sound E_ok mixed (encA N D (numD D) cv cs.length (fun v h' => Put (h.next + 1) (h.row [.int .i64 N, .int .i64 D, cv]) v (bts 8 (numN N)) h') (fun _ v h' => Put (h.next + 1) (h.row [.int .i64 N, .int .i64 D, cv]) v (bts 8 (numN N) ++ bts 8 (numD D)) h')
    (fun v h' => Put (h.next + 1) (h.row [.int .i64 N, .int .i64 D, cv]) v (bts 8 (numN N) ++ bts 8 (numD D) ++ bts 8 cs.length) h') (fun _ v h' => Put (h.next + 1) (h.row [.int .i64 N, .int .i64 D, cv]) v (encG N D cs) h'))
  rw [enc_ev]
  have t0 : Put (h.next + 1) (h.row [.int .i64 N, .int .i64 D, cv]) (.slice none 0 0) [] (h.row [.int .i64 N, .int .i64 D, cv]) := ⟨.nil, Keep.refl _ _, Nat.le_refl _⟩
  have hD := (wrap_numD D).1
  have hgk : ∀ {w : Value} {l : List UInt8} {h' : AHeap}, Put (h.next + 1) (h.row [.int .i64 N, .int .i64 D, cv]) w l h' → Grp h.next h' N D cv := fun t => g0.keep (t.keep.get _ (Nat.lt_succ_self _)) (by have := t.le; show h.next + 1 ≤ _; exact this)
  refine ⟨g0.load0, g0.load1, by rw [hD], g0.load2, hgr.len 23, ?_, ?_⟩
  · refine (putNumB (n := N) t0.sl hN (by simp)).mono ?_
    rintro x h' g
    obtain ⟨v, rfl, o, k⟩ := id g
    exact ⟨v, rfl, t0.step g⟩
  intro v1 h1 q1
  refine ⟨hgr.len 23, decide_eq_true rfl, (hgk q1).load2, hg.eqV, by rw [hD], decide_eq_true rfl, (hgk q1).load1, decide_eq_true rfl, ?_, ?_⟩
  · refine (put64B (n := numD D) q1.sl (by simp [bts_len])).mono ?_
    rintro x h' g
    obtain ⟨v, rfl, o, k⟩ := id g
    exact ⟨v, rfl, q1.step g⟩
  intro v2 h2 q2
  refine ⟨hgr.len 23, decide_eq_true rfl, (hgk q2).load2, hg.eqV, ?_, ?_⟩
  · refine (putNumB (n := .ofNat cs.length) q2.sl (by have := ok.hcs; simp only [Int.ofNat_eq_natCast]; omega) (by simp [bts_len])).mono ?_
    rintro x h' g
    obtain ⟨v, rfl, o, k⟩ := id g
    refine ⟨v, rfl, ?_⟩
    have := q2.step g
    rwa [natN] at this
  intro v3 h3 q3
  refine ⟨(hgk q3).load2, hgr.len 23, fun rd => ?_, ?_, fun _ _ e => e⟩
  · refine (enc_out hgr q3 ok.hcs ok.hc (by simp only [List.length_append, bts_len]; omega)).mono ?_
    intro x f h' q
    refine LQ.mono q (fun v q => ⟨v, rfl, ?_⟩) (fun b q => q.elim)
    simpa [encG, eG, List.append_assoc] using q
  · intro v h4 q4
    exact ⟨v, rfl, q4.own.mono (Nat.le_succ _), hrow.trans (q4.keep.mono (Nat.le_succ _))⟩
end
end Go.Proofs.YtkkbpknpongmfaaGreatDoor

/- The document's Encode. -/
namespace Go.Proofs.YtkkbpknpongmfaaGreatDoor
open Go Go.Abs Classical
noncomputable section
abbrev fr16 (g : Nat) (w : Value) (i : Nat) : AFr := fr 56 [(1, ptr g), (3, w), (4, .int .i64 (.ofNat i))]
abbrev fr16i (g : Nat) (w : Value) (i j : Nat) : AFr := fr 56 [(1, ptr g), (3, w), (4, .int .i64 (.ofNat i)), (5, .int .i64 (.ofNat j))]
def inA (cv u u' : Value) (k b o b2 o2 : Nat) (l : List UInt8) (h1 : AHeap) (c : Value → AHeap → Prop) : Ans :=
  .val cv (.val (pto b o) (.val u (.val (.int .i64 (.ofNat k)) (.br (.val cv (.val (pto b o) (.val u (.val (pto b2 o2) (.val (str l) (.eff u' h1 (.call (fun v : Value => v) c fun _ _ => .stop))))))) .stop))))
theorem encr_in_ev (g : Nat) (w cv u u' : Value) (i j k b o b2 o2 : Nat) (l : List UInt8) (h h1 : AHeap) (c : Value → AHeap → Prop) (R : AExit → AFr → AHeap → Prop) : orC PP E (bodyOf 16 1) (fr16i g w i j) h (inA cv u u' k b o b2 o2 l h1 c) (fun x f h' _ => R x (keepF [1,3,4,5] f) h') =
    (E.loadVar h 30 g 2 = some cv ∧ E.vIndexAddr 30 cv i = some (pto b o) ∧ E.loadVar h 23 b o = some u ∧ lenS 9 u h = some (.int .i64 (.ofNat k)) ∧
      ((decide (Int.ofNat j < Int.ofNat k) = true → E.loadVar h 30 g 2 = some cv ∧ E.vIndexAddr 30 cv i = some (pto b o) ∧ E.loadVar h 23 b o = some u ∧ E.vIndexAddr 23 u j = some (pto b2 o2) ∧ E.loadVar h 9 b2 o2 = some (str l) ∧ convB h l = some (u', h1) ∧
          SC PP 43 [w, u'] h1 (fun r h' => ∃ v : Value, r = .ret v ∧ c v h') ∧ ∀ (v : Value) (h' : AHeap), c v h' → R .normal (fr 56 [(1, ptr g), (3, v), (4, .int .i64 (.ofNat i)), (5, .int .i64 (IntKind.i64.wrap (.ofNat j.succ)))]) h') ∧
       (decide (Int.ofNat j < Int.ofNat k) = false → R (.exit 2) (fr16i g w i j) h))) := by kernel_rfl
def outA (g : Nat) (cv u : Value) (n i k b o : Nat) (c : Value → AHeap → Prop) (ci : Value → Value → AHeap → Prop) : Ans :=
  .val cv (.val (.int .i64 (.ofNat n)) (.br (.val cv (.val (pto b o) (.val u (.val (.int .i64 (.ofNat k)) (.call (fun v : Value => v) c fun v1 _ => .loop [1,3,4,5] 2 (fun v : Value => fr16 g v i) (ci v1) (fun _ _ => .stop) (fun _ : Unit => fr 56 []) (fun _ _ => False) (fun _ _ => .stop)))))) .stop))
theorem encr_out_ev (g : Nat) (w cv u : Value) (n i k b o : Nat) (h : AHeap) (c : Value → AHeap → Prop) (ci : Value → Value → AHeap → Prop) (R : AExit → AFr → AHeap → Prop) : orC PP E (bodyOf 16 0) (fr16 g w i) h (outA g cv u n i k b o c ci) (fun x f h' _ => R x (keepF [1,3,4] f) h') =
    (E.loadVar h 30 g 2 = some cv ∧ lenS 23 cv h = some (.int .i64 (.ofNat n)) ∧
      ((decide (Int.ofNat i < Int.ofNat n) = true → E.loadVar h 30 g 2 = some cv ∧ E.vIndexAddr 30 cv i = some (pto b o) ∧ E.loadVar h 23 b o = some u ∧ lenS 9 u h = some (.int .i64 (.ofNat k)) ∧
          SC PP 41 [w, .int .i64 (.ofNat k)] h (fun r h' => ∃ v : Value, r = .ret v ∧ c v h') ∧ ∀ (v1 : Value) (h1 : AHeap), c v1 h1 →
            ((∀ rd, SW PP rd (.loop (bodyOf 16 1)) (fr16i g v1 i 0) h1 (LQ 2 (fun v : Value => fr16 g v i) (ci v1) (fun _ : Unit => fr 56 []) (fun _ _ => False))) ∧
             (∀ (v2 : Value) (h2 : AHeap), ci v1 v2 h2 → R .normal (fr 56 [(1, ptr g), (3, v2), (4, .int .i64 (IntKind.i64.wrap (.ofNat i.succ)))]) h2) ∧
             ∀ (_ : Unit) (h2 : AHeap), False → R .ret (fr 56 []) h2)) ∧
       (decide (Int.ofNat i < Int.ofNat n) = false → R (.exit 0) (fr16 g w i) h))) := by kernel_rfl
def encrA (N D : Int) (d : Nat) (cv : Value) (n : Nat) (c1 : Value → AHeap → Prop) (c2 : Value → AHeap → Prop) (c3 : Value → AHeap → Prop) (cl : Value → AHeap → Prop) : Ans :=
  .val (.int .i64 N) (.call (fun v : Value => v) c1 fun _ _ => .val (.int .i64 D) (.val (.int .u64 (.ofNat d)) (.call (fun v : Value => v) c2 fun _ _ => .val cv (.val (.int .i64 (.ofNat n)) (.call (fun v : Value => v) c3 fun _ _ =>
    .loop [1,3,4] 0 (fun w : Value => fr 56 [(3, w)]) cl (fun _ _ => .stop) (fun _ : Unit => fr 56 []) (fun _ _ => False) (fun _ _ => .stop))))))
theorem encr_ev (N D : Int) (d : Nat) (cv : Value) (n : Nat) (h : AHeap) (c1 : Value → AHeap → Prop) (c2 : Value → AHeap → Prop) (c3 : Value → AHeap → Prop) (cl : Value → AHeap → Prop) (Q : ARet → AHeap → Prop) : orCall PP E 16 [.agg #[.int .i64 N, .int .i64 D, cv]] h (encrA N D d cv n c1 c2 c3 cl) Q =
    (E.loadVar (h.row [.int .i64 N, .int .i64 D, cv]) 3 h.next 0 = some (.int .i64 N) ∧ SC PP 41 [.slice none 0 0, .int .i64 N] (h.row [.int .i64 N, .int .i64 D, cv]) (fun r h' => ∃ v : Value, r = .ret v ∧ c1 v h') ∧ ∀ (v1 : Value) (h1 : AHeap), c1 v1 h1 →
      (E.loadVar h1 3 h.next 1 = some (.int .i64 D) ∧ some (Value.int .u64 (IntKind.u64.wrap D)) = some (.int .u64 (.ofNat d)) ∧ SC PP 42 [v1, .int .u64 (.ofNat d)] h1 (fun r h' => ∃ v : Value, r = .ret v ∧ c2 v h') ∧ ∀ (v2 : Value) (h2 : AHeap), c2 v2 h2 →
        (E.loadVar h2 30 h.next 2 = some cv ∧ lenS 23 cv h2 = some (.int .i64 (.ofNat n)) ∧ SC PP 41 [v2, .int .i64 (.ofNat n)] h2 (fun r h' => ∃ v : Value, r = .ret v ∧ c3 v h') ∧ ∀ (v3 : Value) (h3 : AHeap), c3 v3 h3 →
          ((∀ rd, SW PP rd (.loop (bodyOf 16 0)) (fr16 h.next v3 0) h3 (LQ 0 (fun v : Value => fr 56 [(3, v)]) cl (fun _ : Unit => fr 56 []) (fun _ _ => False))) ∧
           (∀ (v : Value) (h4 : AHeap), cl v h4 → Q (.ret v) h4) ∧ ∀ (_ : Unit) (_ : AHeap), False → False)))) := by kernel_rfl

/-- A group's cell is as it was. -/
theorem Put.grp {B : Nat} {H : AHeap} {w : Value} {l : List UInt8} {h : AHeap} (t : Put B H w l h) {g : Nat} {N D : Int} {cv : Value} (r : Grp g H N D cv) (hg : g < B) : Grp g h N D cv := r.keep (t.keep.get g hg) t.keep.next
theorem encr_in {w cv u : Value} {N D : Int} {g i b o B : Nat} {c : Ws} {pre : List UInt8} {H h : AHeap} {rd : Option Nat} (r : Grp g H N D cv) (hg : g < B) (hb : b < B) (e1 : E.vIndexAddr 30 cv i = some (pto b o)) (e2 : E.loadVar H 23 b o = some u) (hu : Sl B H u (c.map str)) (t : Put B H w pre h) (hc : c.length < 9223372036854775807) (hl : pre.length + (eWs c).length < 4294967296) :
    SW PP rd (.loop (bodyOf 16 1)) (fr16i g w i 0) h (LQ 2 (fun v : Value => fr16 g v i) (fun v h' => Put B H v (pre ++ eWs c) h') (fun _ : Unit => fr 56 []) (fun _ _ => False)) := by
  refine loop_or [1,3,4,5] (fun k f h => ∃ j w, j + k = c.length ∧ f = fr16i g w i j ∧ Put B H w (pre ++ eWs (c.take j)) h) ?_ (k := c.length) ⟨0, w, by omega, rfl, by simpa [eWs] using t⟩
  rintro k f h ⟨j, w, hk, rfl, t⟩
  have l2 := (t.grp r hg).load2
  have l3 : E.loadVar h 23 b o = some u := (E_load_keep (t.keep.get b hb) 23 o).trans e2
  have l4 := Sl.lenS (h' := h) hu 9
  by_cases hj : j < c.length
  · obtain ⟨b2, o2, hb2, f1, f2⟩ := Sl.atS (hu.keep t.keep t.le) j hj
    have hle := eWs_le hj
    have hlw : (c[j]).length + 4 = (eW c[j]).length := by simp [eW, bts_len]; omega
    obtain ⟨u', h1, e3, o3, k3⟩ := convB_ok (h := h) (l := c[j]) (by omega)
    refine ⟨inA cv u u' c.length b o b2 o2 c[j] h1 (fun v h' => Put B H v (pre ++ eWs (c.take (j + 1))) h'), ?_⟩
    rw [encr_in_ev]
    refine ⟨l2, e1, l3, l4, fun _ => ⟨l2, e1, l3, f1, f2, e3, ?_, ?_⟩, fun hc => absurd (Int.ofNat_lt.2 hj) (of_decide_eq_false hc)⟩
    · have t1 : Put B H w (pre ++ eWs (c.take j)) h1 := ⟨own_keep t.own k3, t.keep.trans (k3.mono t.le), Nat.le_trans t.le k3.next⟩
      refine (putr t1.sl o3.sl (by simp only [List.length_append]; omega)).mono ?_
      rintro x h' ⟨v, rfl, q⟩
      refine ⟨v, rfl, ?_⟩
      have := t1.step (v := v) ⟨v, rfl, q⟩
      rwa [List.append_assoc, ← eWs_snoc hj] at this
    · intro v h' q
      refine ⟨k - 1, by omega, j + 1, v, by omega, ?_, q⟩
      rw [wrap_succ (by omega)]
  · refine ⟨inA cv u undef c.length b o 0 0 [] h (fun _ _ => False), ?_⟩
    rw [encr_in_ev]
    refine ⟨l2, e1, l3, l4, fun hc => absurd (Int.ofNat_lt.1 (of_decide_eq_true hc)) hj, fun _ => ?_⟩
    obtain rfl : j = c.length := by omega
    rw [List.take_length] at t
    exact .inl ⟨rfl, w, (show Less (keepF [1,3,4] (fr16i g w i c.length)) _ from keepF_less _ _), t⟩
theorem encr_out {w cv : Value} {N D : Int} {g B : Nat} {cs : List Ws} {pre : List UInt8} {H h : AHeap} {rd : Option Nat} (r : Grp g H N D cv) (hgB : g < B) (hg : SlG B H cv cs) (t : Put B H w pre h) (hc : cs.length < 9223372036854775807) (hcl : ∀ c ∈ cs, c.length < 9223372036854775807) (hl : pre.length + (eCs cs).length < 4294967296) :
    SW PP rd (.loop (bodyOf 16 0)) (fr16 g w 0) h (LQ 0 (fun v : Value => fr 56 [(3, v)]) (fun v h' => Put B H v (pre ++ eCs cs) h') (fun _ : Unit => fr 56 []) (fun _ _ => False)) := by
  refine loop_or [1,3,4] (fun k f h => ∃ i w, i + k = cs.length ∧ f = fr16 g w i ∧ Put B H w (pre ++ eCs (cs.take i)) h) ?_ (k := cs.length) ⟨0, w, by omega, rfl, by simpa [eCs] using t⟩
  rintro k f h ⟨i, w, hk, rfl, t⟩
  have l2 := (t.grp r hgB).load2
  have l4 := hg.len (h' := h) 23
  by_cases hi : i < cs.length
  · obtain ⟨b, o, u, hb, e1, e2', hs⟩ := hg.at i hi
    have e2 : E.loadVar h 23 b o = some u := (E_load_keep (t.keep.get b hb) 23 o).trans e2'
    have hle := eCs_le hi
    have hlc : 8 + (eWs cs[i]).length = (eC cs[i]).length := by simp [eC, bts_len]
    have hci := hcl cs[i] (List.getElem_mem _)
    refine ⟨outA g cv u cs.length i (cs[i]).length b o (fun v h' => Put B H v (pre ++ eCs (cs.take i) ++ bts 8 (cs[i]).length) h') (fun _ v h' => Put B H v (pre ++ eCs (cs.take (i + 1))) h'), ?_⟩
    rw [encr_out_ev]
    refine ⟨l2, l4, fun _ => ⟨l2, e1, e2, Sl.lenS hs 9, ?_, ?_⟩, fun hc => absurd (Int.ofNat_lt.2 hi) (of_decide_eq_false hc)⟩
    · refine (putNumr t.sl (n := .ofNat (cs[i]).length) (by simp only [Int.ofNat_eq_natCast]; omega) (by simp only [List.length_append]; omega)).mono ?_
      rintro x h' q
      obtain ⟨v, rfl, o, k⟩ := id q
      refine ⟨v, rfl, ?_⟩
      have := t.step q
      rwa [natN] at this
    · intro v1 h1 q
      refine ⟨fun rd => ?_, ?_, fun _ _ e => e.elim⟩
      · refine (encr_in (i := i) r hgB hb e1 e2' hs q hci (by simp only [List.length_append, bts_len]; omega)).mono ?_
        intro x f h' q
        refine LQ.mono q (fun v q => ⟨v, rfl, ?_⟩) (fun b q => q.elim)
        rw [eCs_snoc hi]
        simpa [eC, List.append_assoc] using q
      · intro v2 h2 q2
        refine ⟨k - 1, by omega, i + 1, v2, by omega, ?_, q2⟩
        rw [wrap_succ (by omega)]
  · refine ⟨outA g cv undef cs.length i 0 0 0 (fun _ _ => False) (fun _ _ _ => False), ?_⟩
    rw [encr_out_ev]
    refine ⟨l2, l4, fun hc => absurd (Int.ofNat_lt.1 (of_decide_eq_true hc)) hi, fun _ => ?_⟩
    obtain rfl : i = cs.length := by omega
    rw [List.take_length] at t
    exact .inl ⟨rfl, w, (show Less (keepF [3] (fr16 g w cs.length)) _ from keepF_less _ _), t⟩
theorem encr_ok {h : AHeap} {N D : Int} {cv : Value} {cs : List Ws} (hg : SlG h.next h cv cs) (ok : GrpOk N cs) : SC PP 16 [.agg #[.int .i64 N, .int .i64 D, cv]] h (GivesB h (encG N D cs)) := by
  have hrow := row_keep h [.int .i64 N, .int .i64 D, cv]
  have hnx : (h.row [.int .i64 N, .int .i64 D, cv]).next = h.next + 1 := rfl
  have g0 := Grp.row h N D cv
  have hgr : SlG (h.next + 1) (h.row [.int .i64 N, .int .i64 D, cv]) cv cs := hg.keep hrow (Nat.le_succ _)
  have hN := ok.hN
  have hlen := ok.hlen
  apply orCall_sound E_ok mixed (encrA N D (numD D) cv cs.length (fun v h' => Put (h.next + 1) (h.row [.int .i64 N, .int .i64 D, cv]) v (bts 8 (numN N)) h') (fun v h' => Put (h.next + 1) (h.row [.int .i64 N, .int .i64 D, cv]) v (bts 8 (numN N) ++ bts 8 (numD D)) h')
    (fun v h' => Put (h.next + 1) (h.row [.int .i64 N, .int .i64 D, cv]) v (bts 8 (numN N) ++ bts 8 (numD D) ++ bts 8 cs.length) h') (fun v h' => Put (h.next + 1) (h.row [.int .i64 N, .int .i64 D, cv]) v (encG N D cs) h'))
  rw [encr_ev]
  have t0 : Put (h.next + 1) (h.row [.int .i64 N, .int .i64 D, cv]) (.slice none 0 0) [] (h.row [.int .i64 N, .int .i64 D, cv]) := ⟨.nil, Keep.refl _ _, Nat.le_refl _⟩
  have hD := wrap_numD D
  have hgk : ∀ {w : Value} {l : List UInt8} {h' : AHeap}, Put (h.next + 1) (h.row [.int .i64 N, .int .i64 D, cv]) w l h' → Grp h.next h' N D cv := fun t => t.grp g0 (Nat.lt_succ_self _)
  refine ⟨g0.load0, ?_, ?_⟩
  · refine (putNumr (n := N) t0.sl hN (by simp)).mono ?_
    rintro x h' g
    obtain ⟨v, rfl, o, k⟩ := id g
    exact ⟨v, rfl, t0.step g⟩
  intro v1 h1 q1
  refine ⟨(hgk q1).load1, by rw [hD.1], ?_, ?_⟩
  · refine (put64r (n := numD D) q1.sl hD.2 (by simp [bts_len])).mono ?_
    rintro x h' g
    obtain ⟨v, rfl, o, k⟩ := id g
    exact ⟨v, rfl, q1.step g⟩
  intro v2 h2 q2
  refine ⟨(hgk q2).load2, hgr.len 23, ?_, ?_⟩
  · refine (putNumr (n := .ofNat cs.length) q2.sl (by have := ok.hcs; simp only [Int.ofNat_eq_natCast]; omega) (by simp [bts_len])).mono ?_
    rintro x h' g
    obtain ⟨v, rfl, o, k⟩ := id g
    refine ⟨v, rfl, ?_⟩
    have := q2.step g
    rwa [natN] at this
  intro v3 h3 q3
  refine ⟨fun rd => ?_, ?_, fun _ _ e => e⟩
  · refine (encr_out g0 (Nat.lt_succ_self _) hgr q3 ok.hcs ok.hc (by simp only [List.length_append, bts_len]; omega)).mono ?_
    intro x f h' q
    refine LQ.mono q (fun v q => ⟨v, rfl, ?_⟩) (fun b q => q.elim)
    simpa [encG, eG, List.append_assoc] using q
  · intro v h4 q4
    exact ⟨v, rfl, q4.own.mono (Nat.le_succ _), hrow.trans (q4.keep.mono (Nat.le_succ _))⟩
end
end Go.Proofs.YtkkbpknpongmfaaGreatDoor

/- What compares: bytes.Equal, the document's Same of bytes, of words and of groups. -/
namespace Go.Proofs.YtkkbpknpongmfaaGreatDoor
open Go Go.Abs Classical
noncomputable section
theorem equal_ev (v w : Value) (l m : List UInt8) (h : AHeap) (Q : ARet → AHeap → Prop) : orCall PP E 15 [v, w] h (.val (str l) (.val (str m) (.br .stop .stop))) Q =
    (E.vConv h 50 9 v = some (str l) ∧ E.vConv h 50 9 w = some (str m) ∧ ((strEq ⟨⟨l⟩⟩ ⟨⟨m⟩⟩ = true → Q (.ret (.bool true)) h) ∧ (strEq ⟨⟨l⟩⟩ ⟨⟨m⟩⟩ = false → Q (.ret (.bool false)) h))) := by kernel_rfl
theorem strEq_refl (l : List UInt8) : strEq ⟨⟨l⟩⟩ ⟨⟨l⟩⟩ = true := by
  exact (strEq_iff _ _).2 rfl
theorem equal_ok {h : AHeap} {v w : Value} {l : List UInt8} {B : Nat} (hv : Sl B h v (bys l)) (hw : Sl B h w (bys l)) : SC PP 15 [v, w] h (fun x h' => x = .ret (.bool true) ∧ h' = h) := by
  apply orCall_sound E_ok mixed (.val (str l) (.val (str l) (.br .stop .stop)))
  rw [equal_ev]
  exact ⟨conv_bys (h' := h) hv, conv_bys (h' := h) hw, fun _ => ⟨rfl, rfl⟩, fun hc => by rw [strEq_refl] at hc; cases hc⟩

abbrev frS (v w : Value) (i : Nat) : AFr := fr 26 [(0, v), (1, w), (5, .int .i64 (.ofNat i))]
theorem sameB_in_ev (v w : Value) (i b o b2 o2 n : Nat) (x y : Int) (h : AHeap) (R : AExit → AFr → AHeap → Prop) : orC PP E (bodyOf 48 0) (frS v w i) h (.val (.int .i64 (.ofNat n)) (.br (.val (pto b o) (.val (.int .u8 x) (.val (pto b2 o2) (.val (.int .u8 y) (.br .stop .stop))))) .stop)) (fun x f h' _ => R x (keepF [0,1,4,5] f) h') =
    (lenS 5 v h = some (.int .i64 (.ofNat n)) ∧ ((decide (Int.ofNat i < Int.ofNat n) = true → E.vIndexAddr 50 v i = some (pto b o) ∧ E.loadVar h 5 b o = some (.int .u8 x) ∧ E.vIndexAddr 50 w i = some (pto b2 o2) ∧ E.loadVar h 5 b2 o2 = some (.int .u8 y) ∧
        (((!(x == y)) = true → R .ret (fr 26 [(0, v), (1, w), (4, .bool false), (5, .int .i64 (.ofNat i))]) h) ∧ ((!(x == y)) = false → R .normal (fr 26 [(0, v), (1, w), (5, .int .i64 (IntKind.i64.wrap (.ofNat i.succ)))]) h))) ∧
      (decide (Int.ofNat i < Int.ofNat n) = false → R (.exit 0) (frS v w i) h))) := by kernel_rfl
theorem sameB_ev (v w : Value) (n m : Nat) (h : AHeap) (ca cb : Unit → AHeap → Prop) (Q : ARet → AHeap → Prop) : orCall PP E 48 [v, w] h (.val (.int .i64 (.ofNat n)) (.val (.int .i64 (.ofNat m)) (.br .stop (.loop [0,1,5] 0 (fun _ : Unit => fr 26 []) ca (fun _ _ => .stop) (fun _ : Unit => fr 26 [(4, .bool false)]) cb (fun _ _ => .stop))))) Q =
    (lenS 5 v h = some (.int .i64 (.ofNat n)) ∧ lenS 5 w h = some (.int .i64 (.ofNat m)) ∧ (((!(Int.ofNat n == Int.ofNat m)) = true → Q (.ret (.bool false)) h) ∧ ((!(Int.ofNat n == Int.ofNat m)) = false →
      ((∀ rd, SW PP rd (.loop (bodyOf 48 0)) (frS v w 0) h (LQ 0 (fun _ : Unit => fr 26 []) ca (fun _ : Unit => fr 26 [(4, .bool false)]) cb)) ∧ (∀ (_ : Unit) (h' : AHeap), ca () h' → Q (.ret (.bool true)) h') ∧ ∀ (_ : Unit) (h' : AHeap), cb () h' → Q (.ret (.bool false)) h')))) := by kernel_rfl
theorem bys_at {l : List UInt8} {i : Nat} (hi : i < l.length) (hi' : i < (bys l).length) : (bys l)[i] = .int .u8 (.ofNat (l[i]).toNat) := by simp [bys]
theorem sameB_ok {h : AHeap} {v w : Value} {l m : List UInt8} {B : Nat} (hv : Sl B h v (bys l)) (hw : Sl B h w (bys m)) (hl : l.length < 9223372036854775807) : SC PP 48 [v, w] h (fun x h' => x = .ret (.bool (decide (l = m))) ∧ h' = h) := by
  have lv : ∀ h', lenS 5 v h' = some (.int .i64 (.ofNat l.length)) := fun h' => by rw [hv.len (h' := h') 5, bys_length]
  have lw : ∀ h', lenS 5 w h' = some (.int .i64 (.ofNat m.length)) := fun h' => by rw [hw.len (h' := h') 5, bys_length]
  apply orCall_sound E_ok mixed (.val (.int .i64 (.ofNat l.length)) (.val (.int .i64 (.ofNat m.length)) (.br .stop (.loop [0,1,5] 0 (fun _ : Unit => fr 26 []) (fun _ h' => h' = h ∧ l = m) (fun _ _ => .stop) (fun _ : Unit => fr 26 [(4, .bool false)]) (fun _ h' => h' = h ∧ l ≠ m) (fun _ _ => .stop)))))
  rw [sameB_ev]
  refine ⟨lv h, lw h, fun hc => ⟨?_, rfl⟩, fun hc => ⟨fun rd => ?_, ?_, ?_⟩⟩
  · have : l ≠ m := by
      rintro rfl
      simp at hc
    rw [decide_eq_false this]
  · have hlm : l.length = m.length := by
      have : (l.length : Int) = m.length := by simpa using hc
      omega
    refine loop_or [0,1,4,5] (fun k f h' => ∃ i, i + k = l.length ∧ f = frS v w i ∧ h' = h ∧ l.take i = m.take i) ?_ (k := l.length) ⟨0, by omega, rfl, rfl, rfl⟩
    rintro k f h' ⟨i, hk, rfl, rfl, ht⟩
    by_cases hi : i < l.length
    · obtain ⟨b, o, _, e1, e2⟩ := hv.at un50 ti5 rfl un5 rfl (j := i) (by rw [bys_length]; exact hi)
      obtain ⟨b2, o2, _, e3, e4⟩ := hw.at un50 ti5 rfl un5 rfl (j := i) (by rw [bys_length]; omega)
      rw [bys_at hi] at e2
      rw [bys_at (by omega)] at e4
      refine ⟨.val (.int .i64 (.ofNat l.length)) (.br (.val (pto b o) (.val (.int .u8 (.ofNat (l[i]).toNat)) (.val (pto b2 o2) (.val (.int .u8 (.ofNat (m[i]).toNat)) (.br .stop .stop))))) .stop), ?_⟩
      rw [sameB_in_ev]
      refine ⟨lv _, fun _ => ⟨e1, e2, e3, e4, fun hne => ?_, fun heq => ?_⟩, fun hc => absurd (Int.ofNat_lt.2 hi) (of_decide_eq_false hc)⟩
      · refine .inr ⟨rfl, (), (show Less (keepF [4] (fr 26 [(0, v), (1, w), (4, .bool false), (5, .int .i64 (.ofNat i))])) _ from keepF_less _ _), rfl, ?_⟩
        rintro rfl
        simp at hne
      · refine ⟨k - 1, by omega, i + 1, by omega, ?_, rfl, ?_⟩
        · rw [wrap_succ (by omega)]
        · rw [List.take_add_one, List.take_add_one, ht, List.getElem?_eq_getElem hi, List.getElem?_eq_getElem (show i < m.length by omega)]
          have : l[i] = m[i] := by
            have heq : ((l[i]).toNat : Int) = (m[i]).toNat := by simpa using heq
            exact UInt8.toNat.inj (by omega)
          rw [this]
    · refine ⟨.val (.int .i64 (.ofNat l.length)) (.br (.val (pto 0 0) (.val (.int .u8 0) (.val (pto 0 0) (.val (.int .u8 0) (.br .stop .stop))))) .stop), ?_⟩
      rw [sameB_in_ev]
      refine ⟨lv _, fun hc => absurd (Int.ofNat_lt.1 (of_decide_eq_true hc)) hi, fun _ => .inl ⟨rfl, (), (show Less (keepF [] (frS v w i)) _ from keepF_less _ _), rfl, ?_⟩⟩
      rw [List.take_of_length_le (by omega), List.take_of_length_le (by omega)] at ht
      exact ht
  · rintro _ h' ⟨rfl, e⟩; exact ⟨by rw [decide_eq_true e], rfl⟩
  · rintro _ h' ⟨rfl, e⟩; exact ⟨by rw [decide_eq_false e], rfl⟩

theorem sameW_in_ev (v w : Value) (i b o b2 o2 n : Nat) (x y : List UInt8) (h : AHeap) (R : AExit → AFr → AHeap → Prop) : orC PP E (bodyOf 31 0) (frS v w i) h (.val (.int .i64 (.ofNat n)) (.br (.val (pto b o) (.val (str x) (.val (pto b2 o2) (.val (str y) (.br .stop .stop))))) .stop)) (fun x f h' _ => R x (keepF [0,1,4,5] f) h') =
    (lenS 9 v h = some (.int .i64 (.ofNat n)) ∧ ((decide (Int.ofNat i < Int.ofNat n) = true → E.vIndexAddr 23 v i = some (pto b o) ∧ E.loadVar h 9 b o = some (str x) ∧ E.vIndexAddr 23 w i = some (pto b2 o2) ∧ E.loadVar h 9 b2 o2 = some (str y) ∧
        (((bif strEq ⟨⟨x⟩⟩ ⟨⟨y⟩⟩ then false else true) = true → R .ret (fr 26 [(0, v), (1, w), (4, .bool false), (5, .int .i64 (.ofNat i))]) h) ∧ ((bif strEq ⟨⟨x⟩⟩ ⟨⟨y⟩⟩ then false else true) = false → R .normal (fr 26 [(0, v), (1, w), (5, .int .i64 (IntKind.i64.wrap (.ofNat i.succ)))]) h))) ∧
      (decide (Int.ofNat i < Int.ofNat n) = false → R (.exit 0) (frS v w i) h))) := by kernel_rfl
theorem sameW_ev (v w : Value) (n m : Nat) (h : AHeap) (ca cb : Unit → AHeap → Prop) (Q : ARet → AHeap → Prop) : orCall PP E 31 [v, w] h (.val (.int .i64 (.ofNat n)) (.val (.int .i64 (.ofNat m)) (.br .stop (.loop [0,1,5] 0 (fun _ : Unit => fr 26 []) ca (fun _ _ => .stop) (fun _ : Unit => fr 26 [(4, .bool false)]) cb (fun _ _ => .stop))))) Q =
    (lenS 9 v h = some (.int .i64 (.ofNat n)) ∧ lenS 9 w h = some (.int .i64 (.ofNat m)) ∧ (((!(Int.ofNat n == Int.ofNat m)) = true → Q (.ret (.bool false)) h) ∧ ((!(Int.ofNat n == Int.ofNat m)) = false →
      ((∀ rd, SW PP rd (.loop (bodyOf 31 0)) (frS v w 0) h (LQ 0 (fun _ : Unit => fr 26 []) ca (fun _ : Unit => fr 26 [(4, .bool false)]) cb)) ∧ (∀ (_ : Unit) (h' : AHeap), ca () h' → Q (.ret (.bool true)) h') ∧ ∀ (_ : Unit) (h' : AHeap), cb () h' → Q (.ret (.bool false)) h')))) := by kernel_rfl
theorem sameW_ok {h : AHeap} {v w : Value} {c : Ws} {B : Nat} (hv : Sl B h v (c.map str)) (hw : Sl B h w (c.map str)) (hl : c.length < 9223372036854775807) : SC PP 31 [v, w] h (fun x h' => x = .ret (.bool true) ∧ h' = h) := by
  apply orCall_sound E_ok mixed (.val (.int .i64 (.ofNat c.length)) (.val (.int .i64 (.ofNat c.length)) (.br .stop (.loop [0,1,5] 0 (fun _ : Unit => fr 26 []) (fun _ h' => h' = h) (fun _ _ => .stop) (fun _ : Unit => fr 26 [(4, .bool false)]) (fun _ _ => False) (fun _ _ => .stop)))))
  rw [sameW_ev]
  refine ⟨Sl.lenS hv 9, Sl.lenS hw 9, fun hc => ?_, fun hc => ⟨fun rd => ?_, fun _ h' e => ⟨rfl, e⟩, fun _ _ e => e.elim⟩⟩
  · simp at hc
  · refine loop_or [0,1,4,5] (fun k f h' => ∃ i, i + k = c.length ∧ f = frS v w i ∧ h' = h) ?_ (k := c.length) ⟨0, by omega, rfl, rfl⟩
    rintro k f h' ⟨i, hk, rfl, rfl⟩
    by_cases hi : i < c.length
    · obtain ⟨b, o, _, e1, e2⟩ := Sl.atS hv i hi
      obtain ⟨b2, o2, _, e3, e4⟩ := Sl.atS hw i hi
      refine ⟨.val (.int .i64 (.ofNat c.length)) (.br (.val (pto b o) (.val (str c[i]) (.val (pto b2 o2) (.val (str c[i]) (.br .stop .stop))))) .stop), ?_⟩
      rw [sameW_in_ev]
      refine ⟨Sl.lenS hv 9, fun _ => ⟨e1, e2, e3, e4, fun hne => ?_, fun heq => ?_⟩, fun hc => absurd (Int.ofNat_lt.2 hi) (of_decide_eq_false hc)⟩
      · rw [strEq_refl] at hne; cases hne
      · refine ⟨k - 1, by omega, i + 1, by omega, ?_, rfl⟩
        rw [wrap_succ (by omega)]
    · refine ⟨.val (.int .i64 (.ofNat c.length)) (.br (.val (pto 0 0) (.val (str []) (.val (pto 0 0) (.val (str []) (.br .stop .stop))))) .stop), ?_⟩
      rw [sameW_in_ev]
      exact ⟨Sl.lenS hv 9, fun hc => absurd (Int.ofNat_lt.1 (of_decide_eq_true hc)) hi, fun _ => .inl ⟨rfl, (), (show Less (keepF [] (frS v w i)) _ from keepF_less _ _), rfl⟩⟩

/-! Same, of groups that hold the same. -/
abbrev fr11 (g q i : Nat) : AFr := fr 46 [(2, ptr g), (3, ptr q), (5, .int .i64 (.ofNat i))]
def sgA (h : AHeap) (cv cw u w : Value) (n b o b2 o2 : Nat) : Ans := .val cv (.val (.int .i64 (.ofNat n)) (.br (.val cv (.val (pto b o) (.val u (.val cw (.val (pto b2 o2) (.val w (.call (fun _ : Unit => .bool true) (fun _ h' => h' = h) fun _ _ => .stop))))))) .stop))
theorem sg_in_ev (cv cw u w : Value) (g q i b o b2 o2 n : Nat) (h : AHeap) (R : AExit → AFr → AHeap → Prop) : orC PP E (bodyOf 11 0) (fr11 g q i) h (sgA h cv cw u w n b o b2 o2) (fun x f h' _ => R x (keepF [2,3,4,5] f) h') =
    (E.loadVar h 30 g 2 = some cv ∧ lenS 23 cv h = some (.int .i64 (.ofNat n)) ∧
      ((decide (Int.ofNat i < Int.ofNat n) = true → E.loadVar h 30 g 2 = some cv ∧ E.vIndexAddr 30 cv i = some (pto b o) ∧ E.loadVar h 23 b o = some u ∧ E.loadVar h 30 q 2 = some cw ∧ E.vIndexAddr 30 cw i = some (pto b2 o2) ∧ E.loadVar h 23 b2 o2 = some w ∧
          SC PP 31 [u, w] h (fun r h' => ∃ _ : Unit, r = .ret (.bool true) ∧ h' = h) ∧ ∀ (_ : Unit) (h' : AHeap), h' = h → R .normal (fr 46 [(2, ptr g), (3, ptr q), (5, .int .i64 (IntKind.i64.wrap (.ofNat i.succ)))]) h') ∧
       (decide (Int.ofNat i < Int.ofNat n) = false → R (.exit 0) (fr11 g q i) h))) := by kernel_rfl
def sg0 (N D : Int) (cv cw : Value) (n : Nat) (ca cb : Unit → AHeap → Prop) : Ans :=
  .val (.int .i64 N) (.val (.int .i64 N) (.br .stop (.val (.int .i64 D) (.val (.int .i64 D) (.br .stop (.val cv (.val (.int .i64 (.ofNat n)) (.val cw (.val (.int .i64 (.ofNat n)) (.br .stop (.loop [2,3,5] 0 (fun _ : Unit => fr 46 []) ca (fun _ _ => .stop) (fun _ : Unit => fr 46 [(4, .bool false)]) cb (fun _ _ => .stop))))))))))))
abbrev rw2 (h : AHeap) (N D : Int) (cv cw : Value) : AHeap := (h.row [.int .i64 N, .int .i64 D, cv]).row [.int .i64 N, .int .i64 D, cw]
theorem sg_ev (cv cw : Value) (N D : Int) (n : Nat) (h : AHeap) (ca cb : Unit → AHeap → Prop) (Q : ARet → AHeap → Prop) : orCall PP E 11 [.agg #[.int .i64 N, .int .i64 D, cv], .agg #[.int .i64 N, .int .i64 D, cw]] h (sg0 N D cv cw n ca cb) Q =
    (E.loadVar (rw2 h N D cv cw) 3 h.next 0 = some (.int .i64 N) ∧ E.loadVar (rw2 h N D cv cw) 3 (h.row [.int .i64 N, .int .i64 D, cv]).next 0 = some (.int .i64 N) ∧ (((!(N == N)) = true → Q (.ret (.bool false)) (rw2 h N D cv cw)) ∧ ((!(N == N)) = false →
      E.loadVar (rw2 h N D cv cw) 3 h.next 1 = some (.int .i64 D) ∧ E.loadVar (rw2 h N D cv cw) 3 (h.row [.int .i64 N, .int .i64 D, cv]).next 1 = some (.int .i64 D) ∧ (((!(D == D)) = true → Q (.ret (.bool false)) (rw2 h N D cv cw)) ∧ ((!(D == D)) = false →
        E.loadVar (rw2 h N D cv cw) 30 h.next 2 = some cv ∧ lenS 23 cv (rw2 h N D cv cw) = some (.int .i64 (.ofNat n)) ∧ E.loadVar (rw2 h N D cv cw) 30 (h.row [.int .i64 N, .int .i64 D, cv]).next 2 = some cw ∧ lenS 23 cw (rw2 h N D cv cw) = some (.int .i64 (.ofNat n)) ∧
          (((!(Int.ofNat n == Int.ofNat n)) = true → Q (.ret (.bool false)) (rw2 h N D cv cw)) ∧ ((!(Int.ofNat n == Int.ofNat n)) = false →
            ((∀ rd, SW PP rd (.loop (bodyOf 11 0)) (fr11 h.next (h.row [.int .i64 N, .int .i64 D, cv]).next 0) (rw2 h N D cv cw) (LQ 0 (fun _ : Unit => fr 46 []) ca (fun _ : Unit => fr 46 [(4, .bool false)]) cb)) ∧
             (∀ (_ : Unit) (h' : AHeap), ca () h' → Q (.ret (.bool true)) h') ∧ ∀ (_ : Unit) (h' : AHeap), cb () h' → Q (.ret (.bool false)) h')))))))) := by kernel_rfl
theorem sameG_ok {h : AHeap} {N D : Int} {cv cw : Value} {cs : List Ws} (hv : SlG h.next h cv cs) (hw : SlG h.next h cw cs) (hl : cs.length < 9223372036854775807) (hcl : ∀ c ∈ cs, c.length < 9223372036854775807) :
    SC PP 11 [.agg #[.int .i64 N, .int .i64 D, cv], .agg #[.int .i64 N, .int .i64 D, cw]] h (fun x h' => x = .ret (.bool true) ∧ Keep h.next h h') := by
  have k1 := row_keep h [.int .i64 N, .int .i64 D, cv]
  have k2 := row_keep (h.row [.int .i64 N, .int .i64 D, cv]) [.int .i64 N, .int .i64 D, cw]
  have k12 : Keep h.next h (rw2 h N D cv cw) := k1.trans (k2.mono (Nat.le_succ _))
  have g1 : Grp h.next (rw2 h N D cv cw) N D cv := (Grp.row h N D cv).keep (k2.get _ (Nat.lt_succ_self _)) k2.next
  have g2 : Grp (h.row [.int .i64 N, .int .i64 D, cv]).next (rw2 h N D cv cw) N D cw := Grp.row _ N D cw
  have hv' : SlG (rw2 h N D cv cw).next (rw2 h N D cv cw) cv cs := hv.keep k12 k12.next
  have hw' : SlG (rw2 h N D cv cw).next (rw2 h N D cv cw) cw cs := hw.keep k12 k12.next
  apply orCall_sound E_ok mixed (sg0 N D cv cw cs.length (fun _ h' => h' = rw2 h N D cv cw) (fun _ _ => False))
  rw [sg_ev]
  refine ⟨g1.load0, g2.load0, fun hc => by simp at hc, fun _ => ⟨g1.load1, g2.load1, fun hc => by simp at hc, fun _ => ⟨g1.load2, hv'.len 23, g2.load2, hw'.len 23, fun hc => by simp at hc, fun _ => ⟨fun rd => ?_, fun _ h' e => ⟨rfl, by rw [e]; exact k12⟩, fun _ _ e => e.elim⟩⟩⟩⟩
  refine loop_or [2,3,4,5] (fun k f h' => ∃ i, i + k = cs.length ∧ f = fr11 h.next (h.row [.int .i64 N, .int .i64 D, cv]).next i ∧ h' = rw2 h N D cv cw) ?_ (k := cs.length) ⟨0, by omega, rfl, rfl⟩
  rintro k f h' ⟨i, hk, rfl, rfl⟩
  by_cases hi : i < cs.length
  · obtain ⟨b, o, u, _, e1, e2, e3⟩ := hv'.at i hi
    obtain ⟨b2, o2, w, _, f1, f2, f3⟩ := hw'.at i hi
    refine ⟨sgA (rw2 h N D cv cw) cv cw u w cs.length b o b2 o2, ?_⟩
    rw [sg_in_ev]
    refine ⟨g1.load2, hv'.len 23, fun _ => ⟨g1.load2, e1, e2, g2.load2, f1, f2, (sameW_ok e3 f3 (hcl _ (List.getElem_mem _))).mono fun x h' q => ⟨(), q⟩, ?_⟩, fun hc => absurd (Int.ofNat_lt.2 hi) (of_decide_eq_false hc)⟩
    rintro _ h' rfl
    refine ⟨k - 1, by omega, i + 1, by omega, ?_, rfl⟩
    rw [wrap_succ (by omega)]
  · refine ⟨sgA (rw2 h N D cv cw) cv cw undef undef cs.length 0 0 0 0, ?_⟩
    rw [sg_in_ev]
    exact ⟨g1.load2, hv'.len 23, fun hc => absurd (Int.ofNat_lt.1 (of_decide_eq_true hc)) hi, fun _ => .inl ⟨rfl, (), (show Less (keepF [] (fr11 h.next (h.row [.int .i64 N, .int .i64 D, cv]).next i)) _ from keepF_less _ _), rfl⟩⟩

/-! May. -/
abbrev fr17 (g i : Nat) : AFr := fr 68 [(1, ptr g), (3, .int .i64 (.ofNat i))]
abbrev fr17i (g i j : Nat) : AFr := fr 68 [(1, ptr g), (3, .int .i64 (.ofNat i)), (4, .int .i64 (.ofNat j))]
abbrev fr17r : AFr := fr 68 [(2, .bool false)]
def mayI (cv u : Value) (k b o b2 o2 : Nat) (l : List UInt8) : Ans := .val cv (.val (pto b o) (.val u (.val (.int .i64 (.ofNat k)) (.br (.val cv (.val (pto b o) (.val u (.val (pto b2 o2) (.val (str l) (.val (.int .i64 (.ofNat l.length)) (.br .stop .stop))))))) .stop))))
theorem may_in_ev (cv u : Value) (g i j k b o b2 o2 : Nat) (l : List UInt8) (h : AHeap) (R : AExit → AFr → AHeap → Prop) : orC PP E (bodyOf 17 1) (fr17i g i j) h (mayI cv u k b o b2 o2 l) (fun x f h' _ => R x (keepF [1,2,3,4] f) h') =
    (E.loadVar h 30 g 2 = some cv ∧ E.vIndexAddr 30 cv i = some (pto b o) ∧ E.loadVar h 23 b o = some u ∧ lenS 9 u h = some (.int .i64 (.ofNat k)) ∧
      ((decide (Int.ofNat j < Int.ofNat k) = true → E.loadVar h 30 g 2 = some cv ∧ E.vIndexAddr 30 cv i = some (pto b o) ∧ E.loadVar h 23 b o = some u ∧ E.vIndexAddr 23 u j = some (pto b2 o2) ∧ E.loadVar h 9 b2 o2 = some (str l) ∧ some (Value.int .i64 (.ofNat l.length)) = some (Value.int .i64 (.ofNat l.length)) ∧
         ((decide (Int.ofNat l.length > Int.ofNat 512) = true → R .ret (fr 68 [(1, ptr g), (2, .bool false), (3, .int .i64 (.ofNat i)), (4, .int .i64 (.ofNat j))]) h) ∧
          (decide (Int.ofNat l.length > Int.ofNat 512) = false → R .normal (fr 68 [(1, ptr g), (3, .int .i64 (.ofNat i)), (4, .int .i64 (IntKind.i64.wrap (.ofNat j.succ)))]) h))) ∧
       (decide (Int.ofNat j < Int.ofNat k) = false → R (.exit 2) (fr17i g i j) h))) := by kernel_rfl
def mayO (h : AHeap) (g : Nat) (cv u : Value) (n i k b o : Nat) (P1 P2 : Prop) : Ans :=
  .val cv (.val (.int .i64 (.ofNat n)) (.br (.val cv (.val (pto b o) (.val u (.val (.int .i64 (.ofNat k)) (.br .stop (.val cv (.val (pto b o) (.val u (.val (.int .i64 (.ofNat k)) (.br .stop
    (.loop [1,3,4] 2 (fun _ : Unit => fr17 g i) (fun _ h' => h' = h ∧ P1) (fun _ _ => .stop) (fun _ : Unit => fr17r) (fun _ h' => h' = h ∧ P2) (fun _ _ => .stop)))))))))))) .stop))
theorem may_out_ev (cv u : Value) (g n i k b o : Nat) (P1 P2 : Prop) (h : AHeap) (R : AExit → AFr → AHeap → Prop) : orC PP E (bodyOf 17 0) (fr17 g i) h (mayO h g cv u n i k b o P1 P2) (fun x f h' _ => R x (keepF [1,2,3] f) h') =
    (E.loadVar h 30 g 2 = some cv ∧ lenS 23 cv h = some (.int .i64 (.ofNat n)) ∧
      ((decide (Int.ofNat i < Int.ofNat n) = true → E.loadVar h 30 g 2 = some cv ∧ E.vIndexAddr 30 cv i = some (pto b o) ∧ E.loadVar h 23 b o = some u ∧ lenS 9 u h = some (.int .i64 (.ofNat k)) ∧
         ((decide (Int.ofNat k < Int.ofNat 1) = true → R .ret (fr 68 [(1, ptr g), (2, .bool false), (3, .int .i64 (.ofNat i))]) h) ∧
          (decide (Int.ofNat k < Int.ofNat 1) = false → E.loadVar h 30 g 2 = some cv ∧ E.vIndexAddr 30 cv i = some (pto b o) ∧ E.loadVar h 23 b o = some u ∧ lenS 9 u h = some (.int .i64 (.ofNat k)) ∧
            ((decide (Int.ofNat k > Int.ofNat 40) = true → R .ret (fr 68 [(1, ptr g), (2, .bool false), (3, .int .i64 (.ofNat i))]) h) ∧
             (decide (Int.ofNat k > Int.ofNat 40) = false →
               ((∀ rd, SW PP rd (.loop (bodyOf 17 1)) (fr17i g i 0) h (LQ 2 (fun _ : Unit => fr17 g i) (fun _ h' => h' = h ∧ P1) (fun _ : Unit => fr17r) (fun _ h' => h' = h ∧ P2))) ∧
                (∀ (_ : Unit) (h' : AHeap), (h' = h ∧ P1) → R .normal (fr 68 [(1, ptr g), (3, .int .i64 (IntKind.i64.wrap (.ofNat i.succ)))]) h') ∧
                ∀ (_ : Unit) (h' : AHeap), (h' = h ∧ P2) → R .ret fr17r h')))))) ∧
       (decide (Int.ofNat i < Int.ofNat n) = false → R (.exit 0) (fr17 g i) h))) := by kernel_rfl
def may0 (N : Int) (cv : Value) (n : Nat) (ca cb : Unit → AHeap → Prop) : Ans :=
  .val (.int .i64 N) (.br .stop (.val (.int .i64 N) (.br .stop (.val cv (.val (.int .i64 (.ofNat n)) (.br .stop (.val cv (.val (.int .i64 (.ofNat n)) (.br .stop (.loop [1,3] 0 (fun _ : Unit => fr 68 []) ca (fun _ _ => .stop) (fun _ : Unit => fr17r) cb (fun _ _ => .stop)))))))))))
theorem may_ev (cv : Value) (N D : Int) (n : Nat) (h : AHeap) (ca cb : Unit → AHeap → Prop) (Q : ARet → AHeap → Prop) : orCall PP E 17 [.agg #[.int .i64 N, .int .i64 D, cv]] h (may0 N cv n ca cb) Q =
    (E.loadVar (h.row [.int .i64 N, .int .i64 D, cv]) 3 h.next 0 = some (.int .i64 N) ∧ ((decide (N < 0) = true → Q (.ret (.bool false)) (h.row [.int .i64 N, .int .i64 D, cv])) ∧ (decide (N < 0) = false →
      E.loadVar (h.row [.int .i64 N, .int .i64 D, cv]) 3 h.next 0 = some (.int .i64 N) ∧ ((decide (N > Int.ofNat 1099511627776) = true → Q (.ret (.bool false)) (h.row [.int .i64 N, .int .i64 D, cv])) ∧ (decide (N > Int.ofNat 1099511627776) = false →
        E.loadVar (h.row [.int .i64 N, .int .i64 D, cv]) 30 h.next 2 = some cv ∧ lenS 23 cv (h.row [.int .i64 N, .int .i64 D, cv]) = some (.int .i64 (.ofNat n)) ∧ ((decide (Int.ofNat n < Int.ofNat 1) = true → Q (.ret (.bool false)) (h.row [.int .i64 N, .int .i64 D, cv])) ∧ (decide (Int.ofNat n < Int.ofNat 1) = false →
          E.loadVar (h.row [.int .i64 N, .int .i64 D, cv]) 30 h.next 2 = some cv ∧ lenS 23 cv (h.row [.int .i64 N, .int .i64 D, cv]) = some (.int .i64 (.ofNat n)) ∧ ((decide (Int.ofNat n > Int.ofNat 21) = true → Q (.ret (.bool false)) (h.row [.int .i64 N, .int .i64 D, cv])) ∧ (decide (Int.ofNat n > Int.ofNat 21) = false →
            ((∀ rd, SW PP rd (.loop (bodyOf 17 0)) (fr17 h.next 0) (h.row [.int .i64 N, .int .i64 D, cv]) (LQ 0 (fun _ : Unit => fr 68 []) ca (fun _ : Unit => fr17r) cb)) ∧
             (∀ (_ : Unit) (h' : AHeap), ca () h' → Q (.ret (.bool true)) h') ∧ ∀ (_ : Unit) (h' : AHeap), cb () h' → Q (.ret (.bool false)) h')))))))))) := by kernel_rfl
end
end Go.Proofs.YtkkbpknpongmfaaGreatDoor
