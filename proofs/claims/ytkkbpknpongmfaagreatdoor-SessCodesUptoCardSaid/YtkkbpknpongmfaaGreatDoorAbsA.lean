/- Trees keyed by numbers, abstract heaps, and how they stand to the model's worlds. -/
import Derived.RecoverIn
import Derived.RangeFuncLeaves
import Derived.Laws.World
import Derived.Laws.Cells
import Derived.Below
import Derived.LoopNIn
import Derived.OrdersIn
import Derived.RangeFuncRecord
namespace Go.Abs
noncomputable section

/-! ### Trees keyed by numbers -/
inductive PT (α : Type) where
  | leaf
  | node (v : Option α) (l r : PT α)

/-- A number, reckoned ahead of what is done with it. -/
noncomputable def frc {β : Type} (n : Nat) (k : Nat → β) : β := Nat.rec (motive := fun _ => β) (k 0) (fun m _ => k m) (Nat.add n 1)
theorem frc_eq {β : Type} (n : Nat) (k : Nat → β) : frc n k = k n := rfl

noncomputable def PT.get {α : Type} (t : PT α) : Nat → Option α :=
  PT.rec (motive := fun _ => Nat → Option α) (fun _ => none)
    (fun v _ _ gl gr n => Nat.rec (motive := fun _ => Option α) v (fun m _ => Nat.rec (motive := fun _ => Nat → Option α) gl (fun _ _ => gr) (Nat.mod m 2) (Nat.div m 2)) n) t

/-- A node whose child is at hand before it is. -/
noncomputable def PT.nodeL {α : Type} (v : Option α) (l r : PT α) : PT α :=
  PT.rec (motive := fun _ => PT α) (.node v .leaf r) (fun a b c _ _ => .node v (.node a b c) r) l
noncomputable def PT.nodeR {α : Type} (v : Option α) (l r : PT α) : PT α :=
  PT.rec (motive := fun _ => PT α) (.node v l .leaf) (fun a b c _ _ => .node v l (.node a b c)) r
theorem PT.nodeL_eq {α : Type} (v : Option α) (l r : PT α) : PT.nodeL v l r = .node v l r := by cases l <;> rfl
theorem PT.nodeR_eq {α : Type} (v : Option α) (l r : PT α) : PT.nodeR v l r = .node v l r := by cases r <;> rfl

noncomputable def PT.fresh {α : Type} (x : Option α) (k : Nat) : Nat → PT α :=
  Nat.rec (motive := fun _ => Nat → PT α) (fun _ => .node x .leaf .leaf)
    (fun _ f n => Nat.rec (motive := fun _ => PT α) (.node x .leaf .leaf)
      (fun m _ => Nat.rec (motive := fun _ => PT α) (PT.nodeL none (f (Nat.div m 2)) .leaf) (fun _ _ => PT.nodeR none .leaf (f (Nat.div m 2))) (Nat.mod m 2)) n) k

noncomputable def PT.upd {α : Type} (x : Option α) (t : PT α) : Nat → PT α :=
  PT.rec (motive := fun _ => Nat → PT α) (fun n => PT.fresh x n n)
    (fun v l r ul ur n => Nat.rec (motive := fun _ => PT α) (.node x l r)
      (fun m _ => Nat.rec (motive := fun _ => PT α) (PT.nodeL v (ul (Nat.div m 2)) r) (fun _ _ => PT.nodeR v l (ur (Nat.div m 2))) (Nat.mod m 2)) n) t

noncomputable def PT.set {α : Type} (t : PT α) (n : Nat) (x : α) : PT α := PT.upd (some x) t n
noncomputable def PT.del {α : Type} (t : PT α) (n : Nat) : PT α := PT.upd none t n

theorem beq_t {n m : Nat} (h : n = m) : Nat.beq n m = true := by subst h; exact Nat.beq_refl n
theorem beq_f {n m : Nat} (h : ¬ n = m) : Nat.beq n m = false := by
  cases hb : Nat.beq n m with
  | false => rfl
  | true => exact absurd (Nat.eq_of_beq_eq_true hb) h
theorem PT.get_leaf {α : Type} (n : Nat) : (PT.leaf : PT α).get n = none := rfl
theorem PT.get_zero {α : Type} (v : Option α) (l r : PT α) : (PT.node v l r).get 0 = v := rfl
theorem PT.get_even {α : Type} (v : Option α) (l r : PT α) (m : Nat) (h : m % 2 = 0) : (PT.node v l r).get (m + 1) = l.get (m / 2) := by
  show Nat.rec (motive := fun _ => Nat → Option α) l.get (fun _ _ => r.get) (m % 2) (m / 2) = _
  rw [h]; rfl
theorem PT.get_odd {α : Type} (v : Option α) (l r : PT α) (m : Nat) (h : m % 2 = 1) : (PT.node v l r).get (m + 1) = r.get (m / 2) := by
  show Nat.rec (motive := fun _ => Nat → Option α) l.get (fun _ _ => r.get) (m % 2) (m / 2) = _
  rw [h]; rfl

theorem PT.get_fresh {α : Type} (x : Option α) : ∀ (k n m : Nat), n ≤ k → (PT.fresh x k n).get m = if m = n then x else none
  | 0, n, m, h => by
    obtain rfl : n = 0 := by omega
    show (PT.node x .leaf .leaf).get m = _
    cases m with
    | zero => rfl
    | succ m =>
      rw [if_neg (by omega)]
      rcases Nat.mod_two_eq_zero_or_one m with h | h
      · rw [PT.get_even _ _ _ _ h]; rfl
      · rw [PT.get_odd _ _ _ _ h]; rfl
  | k + 1, 0, m, h => by
    show (PT.node x .leaf .leaf).get m = _
    cases m with
    | zero => rfl
    | succ m =>
      rw [if_neg (by omega)]
      rcases Nat.mod_two_eq_zero_or_one m with h | h
      · rw [PT.get_even _ _ _ _ h]; rfl
      · rw [PT.get_odd _ _ _ _ h]; rfl
  | k + 1, n + 1, m, h => by
    show (Nat.rec (motive := fun _ => PT α) (PT.nodeL none (PT.fresh x k (n / 2)) .leaf) (fun _ _ => PT.nodeR none .leaf (PT.fresh x k (n / 2))) (n % 2)).get m = _
    rcases Nat.mod_two_eq_zero_or_one n with hn | hn
    · rw [hn]
      show (PT.nodeL none (PT.fresh x k (n / 2)) .leaf).get m = _
      rw [PT.nodeL_eq]
      cases m with
      | zero => rw [if_neg (by omega)]; rfl
      | succ m =>
        rcases Nat.mod_two_eq_zero_or_one m with hm | hm
        · rw [PT.get_even _ _ _ _ hm, PT.get_fresh x k _ _ (by omega)]
          by_cases e : m = n
          · rw [if_pos (by omega), if_pos (by omega)]
          · rw [if_neg (by omega), if_neg (by omega)]
        · rw [PT.get_odd _ _ _ _ hm, PT.get_leaf, if_neg (by omega)]
    · rw [hn]
      show (PT.nodeR none .leaf (PT.fresh x k (n / 2))).get m = _
      rw [PT.nodeR_eq]
      cases m with
      | zero => rw [if_neg (by omega)]; rfl
      | succ m =>
        rcases Nat.mod_two_eq_zero_or_one m with hm | hm
        · rw [PT.get_even _ _ _ _ hm, PT.get_leaf, if_neg (by omega)]
        · rw [PT.get_odd _ _ _ _ hm, PT.get_fresh x k _ _ (by omega)]
          by_cases e : m = n
          · rw [if_pos (by omega), if_pos (by omega)]
          · rw [if_neg (by omega), if_neg (by omega)]

theorem PT.get_upd {α : Type} (x : Option α) : ∀ (t : PT α) (n m : Nat), (PT.upd x t n).get m = if m = n then x else t.get m
  | .leaf, n, m => by
    show (PT.fresh x n n).get m = _
    rw [PT.get_fresh x n n m (Nat.le_refl n), PT.get_leaf]
  | .node v l r, 0, m => by
    show (PT.node x l r).get m = _
    cases m with
    | zero => rfl
    | succ m =>
      rw [if_neg (by omega)]
      rcases Nat.mod_two_eq_zero_or_one m with h | h
      · rw [PT.get_even _ _ _ _ h, PT.get_even _ _ _ _ h]
      · rw [PT.get_odd _ _ _ _ h, PT.get_odd _ _ _ _ h]
  | .node v l r, n + 1, m => by
    show (Nat.rec (motive := fun _ => PT α) (PT.nodeL v (PT.upd x l (n / 2)) r) (fun _ _ => PT.nodeR v l (PT.upd x r (n / 2))) (n % 2)).get m = _
    rcases Nat.mod_two_eq_zero_or_one n with hn | hn
    · rw [hn]
      show (PT.nodeL v (PT.upd x l (n / 2)) r).get m = _
      rw [PT.nodeL_eq]
      cases m with
      | zero => rw [if_neg (by omega)]; rfl
      | succ m =>
        rcases Nat.mod_two_eq_zero_or_one m with hm | hm
        · rw [PT.get_even _ _ _ _ hm, PT.get_even _ _ _ _ hm, PT.get_upd x l]
          by_cases e : m = n
          · rw [if_pos (by omega), if_pos (by omega)]
          · rw [if_neg (by omega), if_neg (by omega)]
        · rw [PT.get_odd _ _ _ _ hm, PT.get_odd _ _ _ _ hm, if_neg (by omega)]
    · rw [hn]
      show (PT.nodeR v l (PT.upd x r (n / 2))).get m = _
      rw [PT.nodeR_eq]
      cases m with
      | zero => rw [if_neg (by omega)]; rfl
      | succ m =>
        rcases Nat.mod_two_eq_zero_or_one m with hm | hm
        · rw [PT.get_even _ _ _ _ hm, PT.get_even _ _ _ _ hm, if_neg (by omega)]
        · rw [PT.get_odd _ _ _ _ hm, PT.get_odd _ _ _ _ hm, PT.get_upd x r]
          by_cases e : m = n
          · rw [if_pos (by omega), if_pos (by omega)]
          · rw [if_neg (by omega), if_neg (by omega)]

theorem PT.get_set {α : Type} (t : PT α) (n : Nat) (x : α) (m : Nat) : (t.set n x).get m = if m = n then some x else t.get m := PT.get_upd (some x) t n m
theorem PT.get_del {α : Type} (t : PT α) (n m : Nat) : (t.del n).get m = if m = n then none else t.get m := PT.get_upd none t n m
theorem PT.get_set_same {α : Type} (t : PT α) (n : Nat) (x : α) : (t.set n x).get n = some x := by rw [PT.get_set, if_pos rfl]
theorem PT.get_set_ne {α : Type} (t : PT α) (n : Nat) (x : α) (m : Nat) (h : m ≠ n) : (t.set n x).get m = t.get m := by rw [PT.get_set, if_neg h]

/-- A list laid from a place on. -/
def PT.puts {α : Type} (t : PT α) (i : Nat) : List α → PT α
  | [] => t
  | x :: xs => (t.set i x).puts (Nat.succ i) xs

theorem PT.get_puts {α : Type} : ∀ (xs : List α) (t : PT α) (i m : Nat), (t.puts i xs).get m = if i ≤ m ∧ m < i + xs.length then xs[m - i]? else t.get m
  | [], t, i, m => by simp only [PT.puts, List.length_nil]; rw [if_neg (by omega)]
  | x :: xs, t, i, m => by
    rw [PT.puts, PT.get_puts xs (t.set i x) (Nat.succ i) m, PT.get_set]
    simp only [List.length_cons, Nat.succ_eq_add_one]
    by_cases h1 : i + 1 ≤ m ∧ m < i + 1 + xs.length
    · rw [if_pos h1, if_pos (by omega)]
      rw [show m - i = (m - (i + 1)) + 1 from by omega]
      simp
    · rw [if_neg h1]
      by_cases h2 : m = i
      · subst h2; rw [if_pos rfl, if_pos (by omega)]; simp
      · rw [if_neg h2, if_neg (by omega)]

/-- The first n things from a place on: all there. -/
def PT.gets {α : Type} (t : PT α) (i : Nat) : Nat → Option (List α)
  | 0 => some []
  | n + 1 => match t.get i with
    | some x => match t.gets (Nat.succ i) n with
      | some xs => some (x :: xs)
      | none => none
    | none => none

theorem PT.gets_length {α : Type} : ∀ (n : Nat) (t : PT α) (i : Nat) (xs : List α), t.gets i n = some xs → xs.length = n
  | 0, t, i, xs, h => by simp only [PT.gets, Option.some.injEq] at h; subst h; rfl
  | n + 1, t, i, xs, h => by
    simp only [PT.gets] at h
    split at h
    · split at h
      · rename_i ys hy
        simp only [Option.some.injEq] at h; subst h
        simp [PT.gets_length n t _ ys hy]
      · cases h
    · cases h

theorem PT.gets_get {α : Type} : ∀ (n : Nat) (t : PT α) (i : Nat) (xs : List α), t.gets i n = some xs → ∀ j, j < n → t.get (i + j) = xs[j]?
  | 0, _, _, _, _, j, hj => absurd hj (Nat.not_lt_zero j)
  | n + 1, t, i, xs, h, j, hj => by
    simp only [PT.gets] at h
    split at h
    · rename_i x hx
      split at h
      · rename_i ys hy
        simp only [Option.some.injEq] at h; subst h
        cases j with
        | zero => simpa using hx
        | succ j =>
          have := PT.gets_get n t _ ys hy j (by omega)
          rw [show i + (j + 1) = Nat.succ i + j from by omega, this]; simp
      · cases h
    · cases h

end
end Go.Abs

/- Abstract values, heaps and frames; how they stand to the model's: the relation, and that it lasts. -/
namespace Go.Abs
noncomputable section

/-- Which block of the world a block of the abstract heap is, and from which cell on. -/
abbrev Gam := Nat → Option (Nat × Nat)
def Gam.le (γ γ' : Gam) : Prop := ∀ b x, γ b = some x → γ' b = some x
theorem Gam.le_refl (γ : Gam) : γ.le γ := fun _ _ h => h
theorem Gam.le_trans {a b c : Gam} (h : a.le b) (k : b.le c) : a.le c := fun x y e => k x y (h x y e)
def Gam.put (γ : Gam) (b c d : Nat) : Gam := fun x => if x = b then some (c, d) else γ x
theorem Gam.put_same (γ : Gam) (b c d : Nat) : γ.put b c d b = some (c, d) := by simp [Gam.put]
theorem Gam.put_ne (γ : Gam) {b x : Nat} (c d : Nat) (h : x ≠ b) : γ.put b c d x = γ x := by simp [Gam.put, h]
theorem Gam.le_put {γ : Gam} {b : Nat} (c d : Nat) (h : γ b = none) : γ.le (γ.put b c d) := by
  intro x y e
  by_cases hx : x = b
  · subst hx; rw [h] at e; cases e
  · rw [Gam.put_ne γ c d hx]; exact e

/-- A slice's capacity is written doubled; an odd one is a capacity that is at least so much, with a name for it. -/
def capLo (k : Nat) : Nat := bif Nat.beq (Nat.mod k 2) 0 then Nat.div k 2 else Nat.mod (Nat.div k 2) 4294967296
def capNm (k : Nat) : Nat := bif Nat.beq (Nat.mod k 2) 0 then 0 else Nat.div (Nat.div k 2) 4294967296
def capR (γ : Gam) (k m : Nat) : Prop := (if k % 2 = 0 then m = k / 2 else k / 2 % 4294967296 ≤ m) ∧ (capNm k ≠ 0 → ∃ c, γ (capNm k) = some (c, m))
theorem capLo_even {k : Nat} (h : k % 2 = 0) : capLo k = k / 2 := by
  have : Nat.beq (Nat.mod k 2) 0 = true := by rw [show Nat.mod k 2 = 0 from h]; rfl
  unfold capLo; rw [this]; rfl
theorem capLo_odd {k : Nat} (h : ¬ k % 2 = 0) : capLo k = k / 2 % 4294967296 := by
  have : Nat.beq (Nat.mod k 2) 0 = false := beq_f h
  unfold capLo; rw [this]; rfl
theorem capNm_even {k : Nat} (h : k % 2 = 0) : capNm k = 0 := by
  have : Nat.beq (Nat.mod k 2) 0 = true := by rw [show Nat.mod k 2 = 0 from h]; rfl
  unfold capNm; rw [this]; rfl
theorem capNm_odd {k : Nat} (h : ¬ k % 2 = 0) : capNm k = k / 2 / 4294967296 := by
  have : Nat.beq (Nat.mod k 2) 0 = false := beq_f h
  unfold capNm; rw [this]; rfl
theorem capR_even (γ : Gam) (c m : Nat) : capR γ (2 * c) m ↔ m = c := by
  unfold capR; rw [if_pos (by omega), capNm_even (by omega)]; simp
theorem capR_odd {γ : Gam} {c m : Nat} (h : c < 4294967296) : capR γ (2 * c + 1) m ↔ c ≤ m := by
  unfold capR; rw [if_neg (by omega), capNm_odd (by omega), show (2 * c + 1) / 2 / 4294967296 = 0 from by omega, show (2 * c + 1) / 2 % 4294967296 = c from by omega]; simp
theorem capR_le {γ : Gam} {k m : Nat} (h : capR γ k m) : capLo k ≤ m := by
  unfold capR at h
  obtain ⟨h, _⟩ := h
  split at h
  · rename_i e; rw [capLo_even e]; omega
  · rename_i e; rw [capLo_odd e]; exact h
theorem capR.mono {γ γ' : Gam} (hl : γ.le γ') {k m : Nat} (h : capR γ k m) : capR γ' k m :=
  ⟨h.1, fun n => let ⟨c, e⟩ := h.2 n; ⟨c, hl _ _ e⟩⟩
/-- A capacity with a name. -/
def named (q lo : Nat) : Nat := Nat.succ (Nat.mul 2 (Nat.add lo (Nat.mul q 4294967296)))
theorem capR_named {γ : Gam} {q lo c m : Nat} (hl : lo < 4294967296) (e : γ q = some (c, m)) (hm : lo ≤ m) : capR γ (named q lo) m := by
  have hn : named q lo = 2 * (lo + q * 4294967296) + 1 := rfl
  unfold capR
  rw [if_neg (by omega), capNm_odd (by omega), hn, show (2 * (lo + q * 4294967296) + 1) / 2 / 4294967296 = q from by omega, show (2 * (lo + q * 4294967296) + 1) / 2 % 4294967296 = lo from by omega]
  exact ⟨hm, fun _ => ⟨c, e⟩⟩

def flat : Value → Bool
  | .bool _ | .int _ _ | .float _ _ | .string _ | .nilFunc | .nilIface => true
  | .pointer none | .map none | .chan none => true
  | .slice none l c => Nat.beq l 0 && Nat.beq c 0
  | _ => false

def oneCell : Value → Bool
  | .agg _ | .tuple _ => false
  | _ => true

/-! Unknown values: what a law's argument may be. -/
/-- Any value of one cell. -/
def topAny : Value := .complex .f32 0 0
def topBool : Value := .complex .f32 1 0
def topStr : Value := .complex .f32 2 0
/-- Any number of a kind, in its range. -/
def topInt (k : IntKind) : Value := .complex .f32 3 (match k with | .i8 => 0 | .i16 => 1 | .i32 => 2 | .i64 => 3 | .u8 => 4 | .u16 => 5 | .u32 => 6 | .u64 => 7)
/-- Any int from a - 2^63 to b - 2^63. -/
def topIv (a b : Nat) : Value := .complex .f64 a b

/-- Any slice longer than so much. -/
def topSl (lo : Nat) : Value := .complex .f32 4 lo

mutual
inductive VR (γ : Gam) : Value → Value → Prop
  | flat {v : Value} : flat v = true → VR γ v v
  | ptr {b o c d : Nat} : γ b = some (c, d) → VR γ (.pointer (some ⟨b, o, none⟩)) (.pointer (some ⟨c, o + d, none⟩))
  | slice {b o c d n k m : Nat} : γ b = some (c, d) → capR γ k m → n ≤ m → VR γ (.slice (some ⟨b, o, none⟩) n k) (.slice (some ⟨c, o + d, none⟩) n m)
  | slice0 {b o : Nat} {a : Addr} : VR γ (.slice (some ⟨b, o, none⟩) 0 1) (.slice (some a) 0 0)
  | map {b c : Nat} : γ b = some (c, 0) → VR γ (.map (some b)) (.map (some c))
  | chan {b c : Nat} : γ b = some (c, 0) → VR γ (.chan (some b)) (.chan (some c))
  | func {fn : Fn} {fs fs' cs cs' : Array Value} : (∀ l, fn ≠ .yield l) → VRs γ fs.toList fs'.toList → VRs γ cs.toList cs'.toList → VR γ (.func fn fs cs) (.func fn fs' cs')
  | yield {l c : Nat} : γ l = some (c, 0) → VR γ (.func (.yield l) #[] #[]) (.func (.yield c) #[] #[])
  | iface {t : TypeId} {v v' : Value} : VR γ v v' → VR γ (.iface t v) (.iface t v')
  | agg {xs ys : Array Value} : VRs γ xs.toList ys.toList → VR γ (.agg xs) (.agg ys)
  | tuple {xs ys : Array Value} : VRs γ xs.toList ys.toList → VR γ (.tuple xs) (.tuple ys)
  | any {v : Value} : oneCell v = true → VR γ topAny v
  | anyBool {b : Bool} : VR γ topBool (.bool b)
  | anyStr {s : ByteArray} : s.size < 9223372036854775808 → VR γ topStr (.string s)
  | anyInt {k : IntKind} {n : Int} : k.min ≤ n → n ≤ k.max → VR γ (topInt k) (.int k n)
  | anyIv {a b : Nat} {n : Int} : (a : Int) ≤ n + 9223372036854775808 → n + 9223372036854775808 ≤ (b : Int) → VR γ (topIv a b) (.int .i64 n)
  | anySl {lo n m : Nat} {a : Option Addr} : lo < n → n < 9223372036854775808 → VR γ (topSl lo) (.slice a n m)
inductive VRs (γ : Gam) : List Value → List Value → Prop
  | nil : VRs γ [] []
  | cons {v v' : Value} {l l' : List Value} : VR γ v v' → VRs γ l l' → VRs γ (v :: l) (v' :: l')
end

mutual
theorem VR.mono {γ γ' : Gam} (h : γ.le γ') : ∀ {v v' : Value}, VR γ v v' → VR γ' v v'
  | _, _, .flat e => .flat e
  | _, _, .ptr e => .ptr (h _ _ e)
  | _, _, .slice e c n => .slice (h _ _ e) (c.mono h) n
  | _, _, .slice0 => .slice0
  | _, _, .map e => .map (h _ _ e)
  | _, _, .chan e => .chan (h _ _ e)
  | _, _, .func n a b => .func n (VRs.mono h a) (VRs.mono h b)
  | _, _, .yield e => .yield (h _ _ e)
  | _, _, .iface e => .iface (VR.mono h e)
  | _, _, .agg e => .agg (VRs.mono h e)
  | _, _, .tuple e => .tuple (VRs.mono h e)
  | _, _, .any e => .any e
  | _, _, .anyBool => .anyBool
  | _, _, .anyStr e => .anyStr e
  | _, _, .anyInt a b => .anyInt a b
  | _, _, .anyIv a b => .anyIv a b
  | _, _, .anySl a b => .anySl a b
theorem VRs.mono {γ γ' : Gam} (h : γ.le γ') : ∀ {v v' : List Value}, VRs γ v v' → VRs γ' v v'
  | _, _, .nil => .nil
  | _, _, .cons a b => .cons (VR.mono h a) (VRs.mono h b)
end

section vrs
variable {γ : Gam}
theorem VRs.length : ∀ {xs ys : List Value}, VRs γ xs ys → ys.length = xs.length
  | _, _, .nil => rfl
  | _, _, .cons _ b => by simp [VRs.length b]
theorem VRs.get : ∀ {xs ys : List Value}, VRs γ xs ys → ∀ (i : Nat) (x : Value), xs[i]? = some x → ∃ y, ys[i]? = some y ∧ VR γ x y
  | _, _, .nil, i, x, h => by simp at h
  | _, _, .cons (v := v) a b, 0, x, h => by simp at h; subst h; exact ⟨_, by simp, a⟩
  | _, _, .cons a b, i + 1, x, h => by simpa using VRs.get b i x (by simpa using h)
theorem VRs.append : ∀ {xs ys zs us : List Value}, VRs γ xs ys → VRs γ zs us → VRs γ (xs ++ zs) (ys ++ us)
  | _, _, _, _, .nil, h => h
  | _, _, _, _, .cons a b, h => .cons a (VRs.append b h)
theorem VRs.take : ∀ {xs ys : List Value} (n : Nat), VRs γ xs ys → VRs γ (xs.take n) (ys.take n)
  | _, _, 0, _ => by simp; exact .nil
  | _, _, n + 1, .nil => by simp; exact .nil
  | _, _, n + 1, .cons a b => by simp only [List.take_succ_cons]; exact .cons a (VRs.take n b)
theorem VRs.drop : ∀ {xs ys : List Value} (n : Nat), VRs γ xs ys → VRs γ (xs.drop n) (ys.drop n)
  | _, _, 0, h => by simpa using h
  | _, _, n + 1, .nil => by simp; exact .nil
  | _, _, n + 1, .cons a b => by simp only [List.drop_succ_cons]; exact VRs.drop n b
theorem VRs.flats : ∀ {xs : List Value}, (∀ x ∈ xs, flat x = true) → VRs γ xs xs
  | [], _ => .nil
  | _ :: _, h => .cons (.flat (h _ (by simp))) (VRs.flats fun y hy => h y (by simp [hy]))
theorem VRs.of_get : ∀ {xs ys : List Value}, ys.length = xs.length → (∀ (i : Nat) (x : Value), xs[i]? = some x → ∃ y, ys[i]? = some y ∧ VR γ x y) → VRs γ xs ys
  | [], [], _, _ => .nil
  | [], _ :: _, h, _ => by simp at h
  | _ :: _, [], h, _ => by simp at h
  | x :: xs, y :: ys, h, g => by
    obtain ⟨y', hy, hv⟩ := g 0 x (by simp)
    simp at hy; subst hy
    exact .cons hv (VRs.of_get (by simpa using h) fun i z hz => by simpa using g (i + 1) z (by simpa using hz))
theorem VRs.set : ∀ {xs ys : List Value} (i : Nat) {v v' : Value}, VRs γ xs ys → VR γ v v' → VRs γ (xs.set i v) (ys.set i v')
  | _, _, _, _, _, .nil, _ => by simp; exact .nil
  | _, _, 0, _, _, .cons _ b, h => .cons h b
  | _, _, i + 1, _, _, .cons a b, h => .cons a (VRs.set i b h)
theorem VRs.replicate {v v' : Value} (h : VR γ v v') : ∀ n, VRs γ (List.replicate n v) (List.replicate n v')
  | 0 => .nil
  | n + 1 => .cons h (VRs.replicate h n)
end vrs

/-- Flat values are related to themselves alone. -/
theorem VR.flat_inv {γ : Gam} {v v' : Value} (h : VR γ v v') (hf : Abs.flat v = true) : v' = v := by
  cases h <;> simp_all [Abs.flat, topAny, topBool, topStr, topInt, topIv, topSl]

inductive Md
  | ro
  | rw (sn : List Nat)
  | snap

def Md.isRw : Md → Bool
  | .rw _ => true
  | _ => false

/-- A loop over a function, as the model keeps it. -/
structure ALoop where
  state : LoopState
  pending : Option Code
  tmps : PT Value
  n : Nat
  params : Array Tmp
  assign : Code
  body : Code
  defers : Nat

inductive AObj
  | cells (cs : PT Value) (md : Md)
  | map (es : List (Value × Value × Nat)) (clk : Nat)
  | loop (l : ALoop)
  | marks (live : Bool)
  | miter (m : Option Nat) (since : Nat) (seen : List Nat) (stepped : Nat)
  | siter (s : ByteArray) (pos : Nat)

structure AHeap where
  objs : PT AObj
  next : Nat
  /-- The blocks below this number are the world's own of the same numbers. -/
  ng : Nat
  /-- Names of capacities: the row, and the size of its elements. -/
  grow : PT (Nat × Nat)

def AHeap.get (h : AHeap) (b : Nat) : Option AObj := h.objs.get b
def AHeap.alloc (h : AHeap) (o : AObj) : AHeap := { h with objs := h.objs.set h.next o, next := Nat.succ h.next }
def AHeap.set (h : AHeap) (b : Nat) (o : AObj) : AHeap := { h with objs := h.objs.set b o }
def AHeap.del (h : AHeap) (b : Nat) : AHeap := { h with objs := h.objs.del b }
def AHeap.dels (h : AHeap) : List Nat → AHeap
  | [] => h
  | b :: l => (h.del b).dels l

theorem AHeap.get_alloc (h : AHeap) (o : AObj) (b : Nat) : (h.alloc o).get b = if b = h.next then some o else h.get b := PT.get_set _ _ _ _
theorem AHeap.get_set (h : AHeap) (o : AObj) (a b : Nat) : (h.set a o).get b = if b = a then some o else h.get b := PT.get_set _ _ _ _
theorem AHeap.get_del (h : AHeap) (a b : Nat) : (h.del a).get b = if b = a then none else h.get b := PT.get_del _ _ _
theorem AHeap.get_dels : ∀ (l : List Nat) (h : AHeap) (b : Nat), (h.dels l).get b = if b ∈ l then none else h.get b
  | [], h, b => by simp [AHeap.dels]
  | a :: l, h, b => by
    rw [AHeap.dels, AHeap.get_dels l, AHeap.get_del]
    by_cases hb : b ∈ l
    · simp [hb]
    · by_cases ha : b = a
      · simp [ha]
      · simp [ha, hb]
theorem AHeap.grow_dels : ∀ (l : List Nat) (h : AHeap), (h.dels l).grow = h.grow
  | [], _ => rfl
  | _ :: l, h => AHeap.grow_dels l (h.del _)
theorem AHeap.ng_dels : ∀ (l : List Nat) (h : AHeap), (h.dels l).ng = h.ng
  | [], _ => rfl
  | _ :: l, h => AHeap.ng_dels l (h.del _)
theorem AHeap.next_dels : ∀ (l : List Nat) (h : AHeap), (h.dels l).next = h.next
  | [], _ => rfl
  | _ :: l, h => AHeap.next_dels l (h.del _)

/-- Temporaries: as many; those that are known, related. -/
structure TmR (γ : Gam) (tm : PT Value) (n : Nat) (arr : Array Value) : Prop where
  size : arr.size = n
  at_ : ∀ t v, tm.get t = some v → ∃ v', arr[t]? = some v' ∧ VR γ v v'

theorem TmR.mono {γ γ' : Gam} {tm : PT Value} {n : Nat} {arr : Array Value} (h : TmR γ tm n arr) (hl : γ.le γ') : TmR γ' tm n arr :=
  ⟨h.size, fun t v e => let ⟨v', a, b⟩ := h.at_ t v e; ⟨v', a, b.mono hl⟩⟩

/-- A map's entries. -/
def EsR (γ : Gam) : List (Value × Value × Nat) → List MapEntry → Prop
  | [], [] => True
  | (k, v, n) :: es, e :: es' => VR γ k e.key ∧ VR γ v e.val ∧ e.born = n ∧ EsR γ es es'
  | _, _ => False

theorem EsR.mono {γ γ' : Gam} (hl : γ.le γ') : ∀ {es : List (Value × Value × Nat)} {es' : List MapEntry}, EsR γ es es' → EsR γ' es es'
  | [], [], _ => trivial
  | (_, _, _) :: _, _ :: _, ⟨a, b, c, d⟩ => ⟨a.mono hl, b.mono hl, c, EsR.mono hl d⟩
  | [], _ :: _, h => h.elim
  | (_, _, _) :: _, [], h => h.elim

structure LoopR (γ : Gam) (l : ALoop) (r : Loop) : Prop where
  state : r.state = l.state
  pending : r.pending = l.pending
  tmps : TmR γ l.tmps l.n r.tmps
  params : r.params = l.params
  assign : r.assign = l.assign
  body : r.body = l.body
  defers : γ l.defers = some (r.defers, 0)

theorem LoopR.mono {γ γ' : Gam} (hl : γ.le γ') {l : ALoop} {r : Loop} (h : LoopR γ l r) : LoopR γ' l r :=
  ⟨h.state, h.pending, h.tmps.mono hl, h.params, h.assign, h.body, hl _ _ h.defers⟩

def OR (γ : Gam) (d : Nat) : AObj → Obj → Prop
  | .cells cs md, .cells arr _ fz => ∀ i v, cs.get i = some v → ∃ v', arr[i + d]? = some v' ∧ VR γ v v' ∧ (md.isRw = true → ¬ (fz.1 ≤ i + d ∧ i + d < fz.2))
  | .map es clk, .map es' clk' => d = 0 ∧ clk' = clk ∧ EsR γ es es'.toList
  | .loop l, .loop r => d = 0 ∧ LoopR γ l r
  | .marks live, .deferred x => d = 0 ∧ x = (if live = true then some [] else none)
  | .miter m since seen st, .mapIter m' since' seen' st' => d = 0 ∧ since' = since ∧ seen'.toList = seen ∧ st' = st ∧ (match m with | none => m' = none | some b => ∃ c, γ b = some (c, 0) ∧ m' = some c)
  | .siter s p, .stringIter s' p' => d = 0 ∧ s' = s ∧ p' = p
  | _, _ => False

theorem OR.mono {γ γ' : Gam} (hl : γ.le γ') {d : Nat} {o : AObj} {o' : Obj} (h : OR γ d o o') : OR γ' d o o' := by
  cases o <;> cases o' <;> simp only [OR] at h ⊢ <;> try exact h
  · intro i v e
    obtain ⟨v', a, b, c⟩ := h i v e
    exact ⟨v', a, b.mono hl, c⟩
  · exact ⟨h.1, h.2.1, h.2.2.mono hl⟩
  · exact ⟨h.1, h.2.mono hl⟩
  · obtain ⟨h1, h2, h3, h4, h5⟩ := h
    refine ⟨h1, h2, h3, h4, ?_⟩
    split at h5
    · exact h5
    · obtain ⟨c, hc, e⟩ := h5
      exact ⟨c, hl _ _ hc, e⟩

/-- Two blocks of the abstract heap may be one block of the world where neither is written, or one is a snapshot of the other's row. -/
def shareOk (b₁ : Nat) (o₁ : AObj) (b₂ : Nat) (o₂ : AObj) : Prop :=
  match o₁, o₂ with
  | .cells _ (.rw sn), .cells _ .snap => b₂ ∈ sn
  | .cells _ .snap, .cells _ (.rw sn) => b₁ ∈ sn
  | .cells _ (.rw _), _ => False
  | _, .cells _ (.rw _) => False
  | .cells _ _, .cells _ _ => True
  | _, _ => False

structure RelH (γ : Gam) (h : AHeap) (w : World) : Prop where
  glob : ∀ b, b < h.ng → γ b = some (b, 0)
  dom : ∀ b c d, γ b = some (c, d) → b < h.next ∧ c < w.heap.size
  obj : ∀ b o, h.get b = some o → ∃ c d o', γ b = some (c, d) ∧ w.heap[c]? = some o' ∧ OR γ d o o'
  inj : ∀ b₁ b₂ o₁ o₂ c d₁ d₂, h.get b₁ = some o₁ → h.get b₂ = some o₂ → γ b₁ = some (c, d₁) → γ b₂ = some (c, d₂) → b₁ ≠ b₂ → shareOk b₁ o₁ b₂ o₂
  grow : ∀ q b sz, h.grow.get q = some (b, sz) → ∃ c s m arr el fz, γ q = some (c, m) ∧ γ b = some (c, s) ∧ w.heap[c]? = some (.cells arr el fz) ∧ s + m * sz ≤ arr.size ∧
    ∀ i, s ≤ i → i < s + m * sz → ¬ (fz.1 ≤ i ∧ i < fz.2)

/-- A block of the world that the abstract heap does not write: all its names are for reading. -/
def Prot (γ : Gam) (h : AHeap) (c : Nat) : Prop := ∀ b d, γ b = some (c, d) → ∃ cs, h.get b = some (.cells cs .ro)

structure Fr (γ : Gam) (h : AHeap) (w : World) (γ' : Gam) (h' : AHeap) (w' : World) : Prop where
  le : γ.le γ'
  next : h.next ≤ h'.next
  ng : h'.ng = h.ng
  os : w'.os = w.os
  tape : w'.tape = w.tape
  output : w'.output = w.output
  size : w.heap.size ≤ w'.heap.size
  ro : ∀ b cs, h.get b = some (.cells cs .ro) → h'.get b = some (.cells cs .ro)
  prot : ∀ c, c < w.heap.size → Prot γ h c → Prot γ' h' c ∧ w'.heap[c]? = w.heap[c]?
  new : ∀ b c d, γ b = none → γ' b = some (c, d) → h.next ≤ b ∧ (w.heap.size ≤ c ∨ ¬ Prot γ h c)

theorem Fr.refl (γ : Gam) (h : AHeap) (w : World) : Fr γ h w γ h w :=
  ⟨Gam.le_refl γ, Nat.le_refl _, rfl, rfl, rfl, rfl, Nat.le_refl _, fun _ _ e => e, fun _ _ p => ⟨p, rfl⟩, fun b c d e e' => by rw [e] at e'; cases e'⟩

theorem Fr.trans {γ : Gam} {h : AHeap} {w : World} {γ' : Gam} {h' : AHeap} {w' : World} {γ'' : Gam} {h'' : AHeap} {w'' : World}
    (a : Fr γ h w γ' h' w') (b : Fr γ' h' w' γ'' h'' w'') : Fr γ h w γ'' h'' w'' where
  le := Gam.le_trans a.le b.le
  next := Nat.le_trans a.next b.next
  ng := b.ng.trans a.ng
  os := b.os.trans a.os
  tape := b.tape.trans a.tape
  output := b.output.trans a.output
  size := Nat.le_trans a.size b.size
  ro := fun x cs e => b.ro x cs (a.ro x cs e)
  prot := fun c hc p => by
    obtain ⟨p1, e1⟩ := a.prot c hc p
    obtain ⟨p2, e2⟩ := b.prot c (Nat.lt_of_lt_of_le hc a.size) p1
    exact ⟨p2, e2.trans e1⟩
  new := fun x c d e e'' => by
    cases hx : γ' x with
    | some y =>
      have : γ'' x = some y := b.le x y hx
      rw [this] at e''
      simp only [Option.some.injEq] at e''
      subst e''
      exact a.new x c d e hx
    | none =>
      obtain ⟨h1, h2⟩ := b.new x c d hx e''
      refine ⟨Nat.le_trans a.next h1, ?_⟩
      by_cases hc : w.heap.size ≤ c
      · exact .inl hc
      · refine .inr fun p => ?_
        rcases h2 with h2 | h2
        · exact hc (Nat.le_trans a.size h2)
        · exact h2 (a.prot c (by omega) p).1

end
end Go.Abs

/- The steps of the abstract heap: a load, a store, a new block, an object written, and what they are in the world. -/
namespace Go.Abs
noncomputable section

theorem oneCell_eq (v : Value) : oneCell v = v.oneCell' := by cases v <;> rfl
theorem VR.oneCell {γ : Gam} {v v' : Value} (h : VR γ v v') : Abs.oneCell v' = Abs.oneCell v := by
  cases h with
  | any e => exact e
  | _ => rfl

def AHeap.load1 (h : AHeap) (b i : Nat) : Option Value :=
  match h.get b with
  | some (.cells cs _) => cs.get i
  | _ => none

theorem AHeap.load1_some {h : AHeap} {b i : Nat} {v : Value} (e : h.load1 b i = some v) : ∃ cs md, h.get b = some (.cells cs md) ∧ cs.get i = some v := by
  unfold AHeap.load1 at e
  split at e
  · rename_i cs md hg; exact ⟨cs, md, hg, e⟩
  · cases e

theorem RelH.load {γ : Gam} {h : AHeap} {w : World} (r : RelH γ h w) {b i : Nat} {v : Value} (e : h.load1 b i = some v) :
    ∃ c d v', γ b = some (c, d) ∧ w.cell? ⟨c, i + d, none⟩ = some v' ∧ VR γ v v' := by
  obtain ⟨cs, md, hg, hi⟩ := AHeap.load1_some e
  obtain ⟨c, d, o', hγ, hw, ho⟩ := r.obj b _ hg
  cases o' <;> simp only [OR] at ho
  obtain ⟨v', h1, h2, _⟩ := ho i v hi
  exact ⟨c, d, v', hγ, by simp [World.cell?, hw, h1], h2⟩

def AHeap.kill (h : AHeap) (b : Nat) : AHeap :=
  match h.get b with
  | some (.cells _ .snap) => h.del b
  | _ => h
def AHeap.kills (h : AHeap) : List Nat → AHeap
  | [] => h
  | b :: l => (h.kill b).kills l

def isSnap : Option AObj → Bool
  | some (.cells _ .snap) => true
  | _ => false

theorem isSnap_some {x : Option AObj} (h : isSnap x = true) : ∃ cs, x = some (.cells cs .snap) := by
  unfold isSnap at h
  split at h
  · exact ⟨_, rfl⟩
  · cases h

theorem AHeap.get_kill (h : AHeap) (a b : Nat) : (h.kill a).get b = if b = a ∧ isSnap (h.get b) = true then none else h.get b := by
  unfold AHeap.kill
  by_cases hb : b = a
  · subst hb
    split
    · rename_i hg; rw [AHeap.get_del]; simp [hg, isSnap]
    · rename_i hg
      by_cases hs : isSnap (h.get b) = true
      · obtain ⟨cs, e⟩ := isSnap_some hs
        exact absurd e (hg cs)
      · simp [hs]
  · split
    · rw [AHeap.get_del]; simp [hb]
    · simp [hb]

theorem AHeap.get_kills : ∀ (l : List Nat) (h : AHeap) (b : Nat), (h.kills l).get b = if b ∈ l ∧ isSnap (h.get b) = true then none else h.get b
  | [], h, b => by simp [AHeap.kills]
  | a :: l, h, b => by
    rw [AHeap.kills, AHeap.get_kills l, AHeap.get_kill]
    by_cases hs : isSnap (h.get b) = true
    · by_cases hb : b = a
      · subst hb
        have hk : (if b = b ∧ isSnap (h.get b) = true then none else h.get b) = none := if_pos ⟨rfl, hs⟩
        rw [hk, show (if b ∈ b :: l ∧ isSnap (h.get b) = true then none else h.get b) = none from if_pos ⟨List.mem_cons_self, hs⟩]
        split <;> rfl
      · by_cases hl : b ∈ l
        · simp [hb, hl, hs]
        · simp [hb, hl]
    · simp [hs]

theorem AHeap.ng_kill (h : AHeap) (b : Nat) : (h.kill b).ng = h.ng := by unfold AHeap.kill; split <;> rfl
theorem AHeap.ng_kills : ∀ (l : List Nat) (h : AHeap), (h.kills l).ng = h.ng
  | [], _ => rfl
  | _ :: l, h => (AHeap.ng_kills l (h.kill _)).trans (AHeap.ng_kill h _)
theorem AHeap.grow_kill (h : AHeap) (b : Nat) : (h.kill b).grow = h.grow := by unfold AHeap.kill; split <;> rfl
theorem AHeap.grow_kills : ∀ (l : List Nat) (h : AHeap), (h.kills l).grow = h.grow
  | [], _ => rfl
  | _ :: l, h => (AHeap.grow_kills l (h.kill _)).trans (AHeap.grow_kill h _)
theorem AHeap.next_kill (h : AHeap) (b : Nat) : (h.kill b).next = h.next := by unfold AHeap.kill; split <;> rfl
theorem AHeap.next_kills : ∀ (l : List Nat) (h : AHeap), (h.kills l).next = h.next
  | [], _ => rfl
  | _ :: l, h => (AHeap.next_kills l (h.kill _)).trans (AHeap.next_kill h _)

theorem heap_setCell (w : World) (c i : Nat) (v : Value) (k : Nat) :
    (w.setCell ⟨c, i, none⟩ v).heap[k]? = if k = c then (w.heap[c]?).map fun
      | .cells cs e fz => .cells (cs.setIfInBounds i v) e fz
      | o => o else w.heap[k]? := by
  simp only [World.setCell, Array.getElem?_modify]
  by_cases hk : k = c
  · subst hk
    simp only [if_true]
    congr 1
  · simp only [if_neg hk, if_neg (Ne.symm hk)]

/-- A row of the abstract heap is written, as a row of the world is; its snapshots are gone. -/
theorem RelH.writeMd {γ : Gam} {h : AHeap} {w w' : World} (r : RelH γ h w) {b c d : Nat} {cs cs' : PT Value} {sn : List Nat} {arr arr' : Array Value} {el : TypeId} {fz : Nat × Nat} (md : Md)
    (hg : h.get b = some (.cells cs (.rw sn))) (hγ : γ b = some (c, d)) (hw : w.heap[c]? = some (.cells arr el fz)) (hsz : arr'.size = arr.size) (hw' : w'.heap[c]? = some (.cells arr' el fz))
    (hk : ∀ k, k ≠ c → w'.heap[k]? = w.heap[k]?) (hz : w'.heap.size = w.heap.size) (hos : w'.os = w.os) (htp : w'.tape = w.tape) (hout : w'.output = w.output)
    (hc : ∀ i v, cs'.get i = some v → ∃ v', arr'[i + d]? = some v' ∧ VR γ v v' ∧ (md.isRw = true → ¬ (fz.1 ≤ i + d ∧ i + d < fz.2))) :
    RelH γ ((h.kills sn).set b (.cells cs' md)) w' ∧ Fr γ h w γ ((h.kills sn).set b (.cells cs' md)) w' := by
  have hget : ∀ b₁ o₁, ((h.kills sn).set b (.cells cs' md)).get b₁ = some o₁ → b₁ ≠ b → h.get b₁ = some o₁ ∧ ¬ (b₁ ∈ sn ∧ isSnap (h.get b₁) = true) := by
    intro b₁ o₁ hg₁ hne
    rw [AHeap.get_set, if_neg hne, AHeap.get_kills] at hg₁
    split at hg₁
    · cases hg₁
    · rename_i hn; exact ⟨hg₁, hn⟩
  have hother : ∀ b₁ o₁ d₁, h.get b₁ = some o₁ → ¬ (b₁ ∈ sn ∧ isSnap (h.get b₁) = true) → b₁ ≠ b → γ b₁ = some (c, d₁) → False := by
    intro b₁ o₁ d₁ hg₁ hn hne hγ₁
    have := r.inj b b₁ _ _ c d d₁ hg hg₁ hγ hγ₁ (Ne.symm hne)
    cases o₁ <;> simp only [shareOk] at this
    rename_i cs₁ md₁
    cases md₁ <;> simp only at this
    exact hn ⟨this, by rw [hg₁]; rfl⟩
  refine ⟨⟨?_, ?_, ?_, ?_, ?_⟩, ⟨Gam.le_refl γ, ?_, by simp [AHeap.set, AHeap.ng_kills], hos, htp, hout, Nat.le_of_eq hz.symm, ?_, ?_, ?_⟩⟩
  · intro b₁ hb₁
    exact r.glob b₁ (by simpa [AHeap.set, AHeap.ng_kills] using hb₁)
  · intro b₁ c₁ d₁ e₁
    rw [hz]
    simpa [AHeap.set, AHeap.next_kills] using r.dom b₁ c₁ d₁ e₁
  · intro b₁ o₁ hg₁
    by_cases hb : b₁ = b
    · subst hb
      rw [AHeap.get_set, if_pos rfl, Option.some.injEq] at hg₁
      subst hg₁
      refine ⟨c, d, .cells arr' el fz, hγ, hw', ?_⟩
      simp only [OR]
      intro j x hx
      obtain ⟨v', h1, h2, h3⟩ := hc j x hx
      exact ⟨v', h1, h2, h3⟩
    · obtain ⟨hg₂, hn⟩ := hget b₁ o₁ hg₁ hb
      obtain ⟨c₁, d₁, o₁', hγ₁, hw₁, ho₁⟩ := r.obj b₁ o₁ hg₂
      refine ⟨c₁, d₁, o₁', hγ₁, ?_, ho₁⟩
      rw [hk c₁ (fun hcc => by subst hcc; exact hother b₁ o₁ d₁ hg₂ hn hb hγ₁)]
      exact hw₁
  · intro b₁ b₂ o₁ o₂ c₀ d₁ d₂ g₁ g₂ e₁ e₂ hne
    by_cases hb₁ : b₁ = b
    · subst hb₁
      obtain ⟨hg₂, hn⟩ := hget b₂ o₂ g₂ (Ne.symm hne)
      rw [hγ, Option.some.injEq, Prod.mk.injEq] at e₁
      obtain ⟨rfl, rfl⟩ := e₁
      exact (hother b₂ o₂ d₂ hg₂ hn (Ne.symm hne) e₂).elim
    · by_cases hb₂ : b₂ = b
      · subst hb₂
        obtain ⟨hg₁, hn⟩ := hget b₁ o₁ g₁ hb₁
        rw [hγ, Option.some.injEq, Prod.mk.injEq] at e₂
        obtain ⟨rfl, rfl⟩ := e₂
        exact (hother b₁ o₁ d₁ hg₁ hn hb₁ e₁).elim
      · exact r.inj b₁ b₂ o₁ o₂ c₀ d₁ d₂ (hget b₁ o₁ g₁ hb₁).1 (hget b₂ o₂ g₂ hb₂).1 e₁ e₂ hne
  · intro q b₀ sz hq
    obtain ⟨c₀, s, m, arr₀, el₀, fz₀, h1, h2, h3, h4, h5⟩ := r.grow q b₀ sz (by simpa [AHeap.set, AHeap.grow_kills] using hq)
    by_cases hc : c₀ = c
    · subst hc
      rw [hw, Option.some.injEq, Obj.cells.injEq] at h3
      obtain ⟨rfl, rfl, rfl⟩ := h3
      exact ⟨_, s, m, arr', _, _, h1, h2, hw', by omega, h5⟩
    · exact ⟨c₀, s, m, arr₀, el₀, fz₀, h1, h2, by rw [hk c₀ hc]; exact h3, h4, h5⟩
  · simp [AHeap.set, AHeap.next_kills]
  · intro b₁ cs₁ hg₁
    have hb : b₁ ≠ b := by intro hb; subst hb; rw [hg] at hg₁; cases hg₁
    rw [AHeap.get_set, if_neg hb, AHeap.get_kills, if_neg, hg₁]
    rintro ⟨_, hs⟩; rw [hg₁] at hs; cases hs
  · intro c₀ hc₀ p
    have hne : c₀ ≠ c := by
      intro hc; subst hc
      obtain ⟨cs₀, h0⟩ := p b d hγ
      rw [hg] at h0; cases h0
    refine ⟨fun b₁ d₁ e₁ => ?_, hk c₀ hne⟩
    obtain ⟨cs₁, hg₁⟩ := p b₁ d₁ e₁
    have hb : b₁ ≠ b := by intro hb; subst hb; rw [hg] at hg₁; cases hg₁
    refine ⟨cs₁, ?_⟩
    rw [AHeap.get_set, if_neg hb, AHeap.get_kills, if_neg, hg₁]
    rintro ⟨_, hs⟩; rw [hg₁] at hs; cases hs
  · intro b₁ c₁ d₁ e₁ e₂; rw [e₁] at e₂; cases e₂

/-- A row of the abstract heap is written, as a row of the world is; its snapshots are gone. -/
theorem RelH.write {γ : Gam} {h : AHeap} {w w' : World} (r : RelH γ h w) {b c d : Nat} {cs cs' : PT Value} {sn : List Nat} {arr arr' : Array Value} {el : TypeId} {fz : Nat × Nat}
    (hg : h.get b = some (.cells cs (.rw sn))) (hγ : γ b = some (c, d)) (hw : w.heap[c]? = some (.cells arr el fz)) (hsz : arr'.size = arr.size) (hw' : w'.heap[c]? = some (.cells arr' el fz))
    (hk : ∀ k, k ≠ c → w'.heap[k]? = w.heap[k]?) (hz : w'.heap.size = w.heap.size) (hos : w'.os = w.os) (htp : w'.tape = w.tape) (hout : w'.output = w.output)
    (hc : ∀ i v, cs'.get i = some v → ∃ v', arr'[i + d]? = some v' ∧ VR γ v v' ∧ ¬ (fz.1 ≤ i + d ∧ i + d < fz.2)) :
    RelH γ ((h.kills sn).set b (.cells cs' (.rw []))) w' ∧ Fr γ h w γ ((h.kills sn).set b (.cells cs' (.rw []))) w' :=
  r.writeMd (.rw []) hg hγ hw hsz hw' hk hz hos htp hout fun i v e => let ⟨v', a, b, c⟩ := hc i v e; ⟨v', a, b, fun _ => c⟩

/-- Cells stored, one behind the other. -/
theorem run_storeCells (P : Program) (c o : Nat) : ∀ (vs : List Value) (i : Nat) (w : World) (arr : Array Value) (el : TypeId) (fz : Nat × Nat), w.heap[c]? = some (.cells arr el fz) →
    (∀ j, j < vs.length → ∃ u, arr[o + i + j]? = some u ∧ ¬ (fz.1 ≤ o + i + j ∧ o + i + j < fz.2)) → (∀ v ∈ vs, v.oneCell' = true) →
    ∃ w' arr', (storeCells ⟨c, o, none⟩ vs i).run P w = .ok () w' ∧ w'.heap[c]? = some (.cells arr' el fz) ∧ (∀ k, k ≠ c → w'.heap[k]? = w.heap[k]?) ∧ w'.heap.size = w.heap.size ∧
      w'.os = w.os ∧ w'.tape = w.tape ∧ w'.output = w.output ∧ arr'.size = arr.size ∧ ∀ m : Nat, arr'[m]? = if o + i ≤ m ∧ m < o + i + vs.length then vs[m - (o + i)]? else arr[m]?
  | [], i, w, arr, el, fz, hw, _, _ => ⟨w, arr, rfl, hw, fun _ _ => rfl, rfl, rfl, rfl, rfl, rfl, fun m => by simp only [List.length_nil]; rw [if_neg (by omega)]⟩
  | v :: vs, i, w, arr, el, fz, hw, hj, h1 => by
    obtain ⟨u, hu, hf⟩ := hj 0 (by simp)
    have hadd : (⟨c, o, none⟩ : Addr).add i = ⟨c, o + i, none⟩ := by unfold Addr.add; split <;> simp_all
    have hcell : w.cell? ⟨c, o + i, none⟩ = some u := by simp [World.cell?, hw]; simpa using hu
    have hfz : w.frozen? ⟨c, o + i, none⟩ = false := by
      simp only [World.frozen?, hw]
      simpa using hf
    have hlt : o + i < arr.size := by
      rcases Nat.lt_or_ge (o + i) arr.size with h | h
      · exact h
      · rw [Nat.add_zero, Array.getElem?_eq_none h] at hu; cases hu
    have hw2 : (w.setCell ⟨c, o + i, none⟩ v).heap[c]? = some (.cells (arr.setIfInBounds (o + i) v) el fz) := by rw [heap_setCell, if_pos rfl, hw]; rfl
    obtain ⟨w', arr', hr, ha, hk, hz, hos, htp, hout, hsz, hm⟩ := run_storeCells P c o vs (i + 1) (w.setCell ⟨c, o + i, none⟩ v) (arr.setIfInBounds (o + i) v) el fz hw2
      (by
        intro j hjl
        obtain ⟨u', hu', hf'⟩ := hj (j + 1) (by simpa using hjl)
        refine ⟨u', ?_, by rw [show o + (i + 1) + j = o + i + (j + 1) from by omega]; exact hf'⟩
        rw [Array.getElem?_setIfInBounds, if_neg (by omega), show o + (i + 1) + j = o + i + (j + 1) from by omega]; exact hu')
      (fun x hx => h1 x (by simp [hx]))
    refine ⟨w', arr', ?_, ha, ?_, ?_, ?_, ?_, ?_, ?_, ?_⟩
    · simp only [storeCells, Sem.run_bind, hadd]
      rw [run_store P w _ v .plain (h1 v (by simp))]
      simp only [hcell, hfz]
      exact hr
    · intro k hne
      rw [hk k hne, heap_setCell, if_neg hne]
    · rw [hz]; simp
    · rw [hos]; rfl
    · rw [htp]; rfl
    · rw [hout]; rfl
    · rw [hsz]; simp
    · intro m
      rw [hm m]
      simp only [List.length_cons]
      by_cases h2 : o + (i + 1) ≤ m ∧ m < o + (i + 1) + vs.length
      · rw [if_pos h2, if_pos (by omega), show m - (o + i) = (m - (o + (i + 1))) + 1 from by omega]; simp
      · rw [if_neg h2, Array.getElem?_setIfInBounds]
        by_cases h3 : o + i = m
        · subst h3; simp [hlt]
        · rw [if_neg h3, if_neg (by omega)]

theorem RelH.fresh {γ : Gam} {h : AHeap} {w : World} (r : RelH γ h w) : γ h.next = none := by
  cases e : γ h.next with
  | none => rfl
  | some x => obtain ⟨c, d⟩ := x; exact absurd (r.dom _ _ _ e).1 (Nat.lt_irrefl _)

theorem RelH.below {γ : Gam} {h : AHeap} {w : World} (r : RelH γ h w) {b : Nat} {o : AObj} (e : h.get b = some o) : b < h.next := by
  obtain ⟨c, d, _, hγ, _⟩ := r.obj b o e
  exact (r.dom _ _ _ hγ).1

theorem heap_alloc (w : World) (o : Obj) (k : Nat) : (w.alloc o).heap[k]? = if k = w.heap.size then some o else w.heap[k]? := by
  simp only [World.alloc, Array.getElem?_push]

theorem RelH.alloc {γ : Gam} {h : AHeap} {w : World} (r : RelH γ h w) {o : AObj} {o' : Obj} (ho : OR (γ.put h.next w.heap.size 0) 0 o o') :
    RelH (γ.put h.next w.heap.size 0) (h.alloc o) (w.alloc o') ∧ Fr γ h w (γ.put h.next w.heap.size 0) (h.alloc o) (w.alloc o') := by
  have hf := r.fresh
  have hle := Gam.le_put w.heap.size 0 hf
  have hold : ∀ b x, γ.put h.next w.heap.size 0 b = some x → b ≠ h.next → γ b = some x := fun b x e hb => by rwa [Gam.put_ne γ _ _ hb] at e
  refine ⟨⟨fun b hb => hle _ _ (r.glob b hb), ?_, ?_, ?_, ?_⟩, ⟨hle, ?_, rfl, rfl, rfl, rfl, ?_, ?_, ?_, ?_⟩⟩
  · intro b c d e
    by_cases hb : b = h.next
    · subst hb
      rw [Gam.put_same, Option.some.injEq, Prod.mk.injEq] at e
      obtain ⟨rfl, rfl⟩ := e
      simp [AHeap.alloc]
    · obtain ⟨h1, h2⟩ := r.dom b c d (hold b _ e hb)
      simp only [AHeap.alloc, World.size_alloc]; omega
  · intro b x hx
    rw [AHeap.get_alloc] at hx
    by_cases hb : b = h.next
    · subst hb
      rw [if_pos rfl, Option.some.injEq] at hx; subst hx
      exact ⟨_, _, o', Gam.put_same _ _ _ _, by rw [heap_alloc, if_pos rfl], ho⟩
    · rw [if_neg hb] at hx
      obtain ⟨c, d, o₁, hγ, hw, h1⟩ := r.obj b x hx
      refine ⟨c, d, o₁, hle _ _ hγ, ?_, h1.mono hle⟩
      rw [heap_alloc, if_neg (by have := (r.dom _ _ _ hγ).2; omega)]; exact hw
  · intro b₁ b₂ o₁ o₂ c d₁ d₂ g₁ g₂ e₁ e₂ hne
    rw [AHeap.get_alloc] at g₁ g₂
    by_cases h1 : b₁ = h.next
    · subst h1
      rw [Gam.put_same, Option.some.injEq, Prod.mk.injEq] at e₁
      have := (r.dom _ _ _ (hold _ _ e₂ (Ne.symm hne))).2
      omega
    · by_cases h2 : b₂ = h.next
      · subst h2
        rw [Gam.put_same, Option.some.injEq, Prod.mk.injEq] at e₂
        have := (r.dom _ _ _ (hold _ _ e₁ h1)).2
        omega
      · rw [if_neg h1] at g₁; rw [if_neg h2] at g₂
        exact r.inj b₁ b₂ o₁ o₂ c d₁ d₂ g₁ g₂ (hold _ _ e₁ h1) (hold _ _ e₂ h2) hne
  · intro q b sz hq
    obtain ⟨c₀, s, m, arr₀, el₀, fz₀, h1, h2, h3, h4, h5⟩ := r.grow q b sz hq
    exact ⟨c₀, s, m, arr₀, el₀, fz₀, hle _ _ h1, hle _ _ h2, by rw [heap_alloc, if_neg (by have := (r.dom _ _ _ h1).2; omega)]; exact h3, h4, h5⟩
  · simp [AHeap.alloc]
  · simp
  · intro b cs hg
    rw [AHeap.get_alloc, if_neg (by have := r.below hg; omega)]; exact hg
  · intro c hc p
    refine ⟨fun b d e => ?_, by rw [heap_alloc, if_neg (by omega)]⟩
    by_cases hb : b = h.next
    · subst hb
      rw [Gam.put_same, Option.some.injEq, Prod.mk.injEq] at e
      omega
    · obtain ⟨cs, hg⟩ := p b d (hold b _ e hb)
      exact ⟨cs, by rw [AHeap.get_alloc, if_neg hb]; exact hg⟩
  · intro b c d e e'
    by_cases hb : b = h.next
    · subst hb
      rw [Gam.put_same, Option.some.injEq, Prod.mk.injEq] at e'
      exact ⟨Nat.le_refl _, .inl (by omega)⟩
    · rw [Gam.put_ne γ _ _ hb, e] at e'; cases e'

def AObj.isCells : AObj → Bool
  | .cells _ _ => true
  | _ => false

theorem RelH.setObj {γ : Gam} {h : AHeap} {w : World} (r : RelH γ h w) {b c d : Nat} {o x : AObj} {o' : Obj} (hx : h.get b = some x) (hn : x.isCells = false) (hγ : γ b = some (c, d))
    (ho : OR γ d o o') : RelH γ (h.set b o) { w with heap := w.heap.setIfInBounds c o' } ∧ Fr γ h w γ (h.set b o) { w with heap := w.heap.setIfInBounds c o' } := by
  have hc := (r.dom _ _ _ hγ).2
  have hheap : ∀ k, ({ w with heap := w.heap.setIfInBounds c o' } : World).heap[k]? = if k = c then some o' else w.heap[k]? := by
    intro k
    simp only [Array.getElem?_setIfInBounds]
    by_cases hk : k = c
    · subst hk; simp [hc]
    · simp [hk, Ne.symm hk]
  have hother : ∀ b₁ o₁ d₁, h.get b₁ = some o₁ → b₁ ≠ b → γ b₁ = some (c, d₁) → False := by
    intro b₁ o₁ d₁ hg hne e
    have := r.inj b b₁ x o₁ c d d₁ hx hg hγ e (Ne.symm hne)
    cases x <;> simp only [AObj.isCells] at hn
    · cases hn
    all_goals (cases o₁ <;> simp only [shareOk] at this; rename_i md; cases md <;> simp only at this)
  refine ⟨⟨r.glob, ?_, ?_, ?_, ?_⟩, ⟨Gam.le_refl γ, Nat.le_refl _, rfl, rfl, rfl, rfl, by simp, ?_, ?_, ?_⟩⟩
  · intro b₁ c₁ d₁ e₁; simpa [AHeap.set] using r.dom b₁ c₁ d₁ e₁
  · intro b₁ o₁ hg
    rw [AHeap.get_set] at hg
    by_cases hb : b₁ = b
    · subst hb
      rw [if_pos rfl, Option.some.injEq] at hg; subst hg
      exact ⟨c, d, o', hγ, by rw [hheap, if_pos rfl], ho⟩
    · rw [if_neg hb] at hg
      obtain ⟨c₁, d₁, o₂, hγ₁, hw, h1⟩ := r.obj b₁ o₁ hg
      refine ⟨c₁, d₁, o₂, hγ₁, ?_, h1⟩
      rw [hheap, if_neg]
      · exact hw
      · intro hcc; subst hcc; exact hother b₁ o₁ d₁ hg hb hγ₁
  · intro b₁ b₂ o₁ o₂ c₀ d₁ d₂ g₁ g₂ e₁ e₂ hne
    rw [AHeap.get_set] at g₁ g₂
    by_cases h1 : b₁ = b
    · subst h1
      rw [hγ, Option.some.injEq, Prod.mk.injEq] at e₁
      obtain ⟨rfl, rfl⟩ := e₁
      rw [if_neg (Ne.symm hne)] at g₂
      exact (hother b₂ o₂ d₂ g₂ (Ne.symm hne) e₂).elim
    · by_cases h2 : b₂ = b
      · subst h2
        rw [hγ, Option.some.injEq, Prod.mk.injEq] at e₂
        obtain ⟨rfl, rfl⟩ := e₂
        rw [if_neg h1] at g₁
        exact (hother b₁ o₁ d₁ g₁ h1 e₁).elim
      · rw [if_neg h1] at g₁; rw [if_neg h2] at g₂
        exact r.inj b₁ b₂ o₁ o₂ c₀ d₁ d₂ g₁ g₂ e₁ e₂ hne
  · intro q b₀ sz hq
    obtain ⟨c₀, s, m, arr₀, el₀, fz₀, h1, h2, h3, h4, h5⟩ := r.grow q b₀ sz hq
    refine ⟨c₀, s, m, arr₀, el₀, fz₀, h1, h2, ?_, h4, h5⟩
    rw [hheap, if_neg]
    · exact h3
    · intro hc; subst hc
      obtain ⟨c₁, d₁, o₁, hγ₁, hw₁, ho₁⟩ := r.obj b x hx
      rw [hγ, Option.some.injEq, Prod.mk.injEq] at hγ₁
      obtain ⟨rfl, rfl⟩ := hγ₁
      rw [h3, Option.some.injEq] at hw₁; subst hw₁
      cases x <;> simp only [OR] at ho₁; cases hn
  · intro b₁ cs hg
    rw [AHeap.get_set, if_neg]
    · exact hg
    · intro hb; subst hb; rw [hx, Option.some.injEq] at hg; subst hg; cases hn
  · intro c₀ hc₀ p
    have hne : c₀ ≠ c := by
      intro h0; subst h0
      obtain ⟨cs, hg⟩ := p b d hγ
      rw [hx, Option.some.injEq] at hg; subst hg; cases hn
    refine ⟨fun b₁ d₁ e₁ => ?_, by rw [hheap, if_neg hne]⟩
    obtain ⟨cs, hg⟩ := p b₁ d₁ e₁
    refine ⟨cs, ?_⟩
    rw [AHeap.get_set, if_neg]
    · exact hg
    · intro hb; subst hb; rw [hx, Option.some.injEq] at hg; subst hg; cases hn
  · intro b₁ c₁ d₁ e₁ e₂; rw [e₁] at e₂; cases e₂

/-- The relation looks at the heap alone. -/
theorem RelH.congr {γ : Gam} {h : AHeap} {w w' : World} (r : RelH γ h w) (e : w'.heap = w.heap) : RelH γ h w' :=
  ⟨r.glob, fun b c d x => by rw [e]; exact r.dom b c d x, fun b o x => by rw [e]; exact r.obj b o x, r.inj, fun q b sz x => by rw [e]; exact r.grow q b sz x⟩
theorem Fr.drew (γ : Gam) (h : AHeap) (w : World) : Fr γ h w γ h w.drew :=
  ⟨Gam.le_refl γ, Nat.le_refl _, rfl, rfl, rfl, rfl, Nat.le_refl _, fun _ _ e => e, fun _ _ p => ⟨p, rfl⟩, fun b c d e e' => by rw [e] at e'; cases e'⟩
theorem RelH.drew {γ : Gam} {h : AHeap} {w : World} (r : RelH γ h w) : RelH γ h w.drew := r.congr rfl

end
end Go.Abs

/- What an abstract run promises of the model's run: of code, of a region's operations, of a call; the rules for code. -/
namespace Go.Abs
noncomputable section

inductive ADef
  | fn (f : FuncId) (args : List Value)
  | mark (b : Nat)

structure AFr where
  tmps : PT Value
  n : Nat
  defers : List ADef

inductive AExit
  | normal
  | exit (id : Nat)
  | goto (l : Nat)
  | ret
  | panic (v : Value)

inductive ARet
  | ret (v : Value)
  | pan (v : Value)

def DR (γ : Gam) : ADef → Deferred → Prop
  | .fn f as, d => ∃ args cap, d = { target := .fn (.func f) cap, args := args } ∧ VRs γ as (args ++ cap).toList
  | .mark b, d => ∃ c, γ b = some (c, 0) ∧ d = { target := .collected c, args := #[] }
def DRs (γ : Gam) : List ADef → List Deferred → Prop
  | [], [] => True
  | a :: as, d :: ds => DR γ a d ∧ DRs γ as ds
  | _, _ => False

theorem DR.mono {γ γ' : Gam} (hl : γ.le γ') {a : ADef} {d : Deferred} (h : DR γ a d) : DR γ' a d := by
  cases a with
  | fn f as => obtain ⟨x, y, e, v⟩ := h; exact ⟨x, y, e, v.mono hl⟩
  | mark b => obtain ⟨c, e, v⟩ := h; exact ⟨c, hl _ _ e, v⟩
theorem DRs.mono {γ γ' : Gam} (hl : γ.le γ') : ∀ {a : List ADef} {d : List Deferred}, DRs γ a d → DRs γ' a d
  | [], [], _ => trivial
  | _ :: _, _ :: _, h => ⟨h.1.mono hl, DRs.mono hl h.2⟩
  | [], _ :: _, h => h.elim
  | _ :: _, [], h => h.elim

structure RelF (γ : Gam) (fr : AFr) (a : Act) : Prop where
  tm : TmR γ fr.tmps fr.n a.tmps
  df : DRs γ fr.defers a.defers
theorem RelF.mono {γ γ' : Gam} (hl : γ.le γ') {fr : AFr} {a : Act} (h : RelF γ fr a) : RelF γ' fr a := ⟨h.tm.mono hl, h.df.mono hl⟩

def ChR (γ : Gam) (v : Value) (ch : List PanicEntry) : Prop := ∃ v', ch = [{ v := v', recovered := false }] ∧ VR γ v v'

def ER (γ : Gam) : AExit → Exit → Prop
  | .normal, .normal => True
  | .exit i, .exit j => j = i
  | .goto i, .goto j => j = i
  | .ret, .ret => True
  | .panic v, .panic ch => ChR γ v ch
  | _, _ => False

def RR (γ : Gam) : ARet → Ending → Prop
  | .ret v, .returned v' => VR γ v v'
  | .pan v, .panicked ch => ChR γ v ch
  | _, _ => False

def fence (r : Option Nat) : Fence := { Fence.wide with round := r }
def RdR (γ : Gam) : Option Nat → Option Nat → Prop
  | none, none => True
  | some b, some c => γ b = some (c, 0)
  | _, _ => False
theorem RdR.mono {γ γ' : Gam} (hl : γ.le γ') {r c : Option Nat} (h : RdR γ r c) : RdR γ' r c := by
  cases r <;> cases c <;> first | exact h | exact hl _ _ h

theorem fence_room (r : Option Nat) (n : Nat) : (fence r).room n := fun _ h => by simp [fence, Fence.wide] at h
theorem fence_fn (r : Option Nat) (f : FuncId) : (fence r).fn f := trivial
theorem fence_depth (r : Option Nat) : (fence r).depth.isSome = true → 1 ≤ 0 := fun h => by simp [fence, Fence.wide] at h

/-- How an abstract run's end stands to the model's. -/
def Post (γ : Gam) (h : AHeap) (w : World) (Q : AExit → AFr → AHeap → Prop) (e : Exit) (a' : Act) (w' : World) : Prop :=
  ∃ x fr' h' γ', Q x fr' h' ∧ RelH γ' h' w' ∧ RelF γ' fr' a' ∧ ER γ' x e ∧ Fr γ h w γ' h' w'
theorem Post.of_fr {γ : Gam} {h : AHeap} {w : World} {γ₁ : Gam} {h₁ : AHeap} {w₁ : World} (f : Fr γ h w γ₁ h₁ w₁) {Q : AExit → AFr → AHeap → Prop} {e : Exit} {a' : Act} {w' : World}
    (p : Post γ₁ h₁ w₁ Q e a' w') : Post γ h w Q e a' w' :=
  let ⟨x, fr', h', γ', q, r, s, t, u⟩ := p; ⟨x, fr', h', γ', q, r, s, t, f.trans u⟩
theorem Post.mono {γ : Gam} {h : AHeap} {w : World} {Q Q' : AExit → AFr → AHeap → Prop} (hq : ∀ x fr h, Q x fr h → Q' x fr h) {e : Exit} {a' : Act} {w' : World}
    (p : Post γ h w Q e a' w') : Post γ h w Q' e a' w' :=
  let ⟨x, fr', h', γ', q, r, s, t, u⟩ := p; ⟨x, fr', h', γ', hq _ _ _ q, r, s, t, u⟩

def CPost (γ : Gam) (h : AHeap) (w : World) (Q : ARet → AHeap → Prop) (e : Ending) (w' : World) : Prop :=
  ∃ x h' γ', Q x h' ∧ RelH γ' h' w' ∧ RR γ' x e ∧ Fr γ h w γ' h' w'
theorem CPost.of_fr {γ : Gam} {h : AHeap} {w : World} {γ₁ : Gam} {h₁ : AHeap} {w₁ : World} (f : Fr γ h w γ₁ h₁ w₁) {Q : ARet → AHeap → Prop} {e : Ending} {w' : World}
    (p : CPost γ₁ h₁ w₁ Q e w') : CPost γ h w Q e w' :=
  let ⟨x, h', γ', q, r, t, u⟩ := p; ⟨x, h', γ', q, r, t, f.trans u⟩

section
variable (P : Program)

/-- Code. -/
def SW (rd : Option Nat) (c : Code) (fr : AFr) (h : AHeap) (Q : AExit → AFr → AHeap → Prop) : Prop :=
  ∀ (γ : Gam) (a : Act) (w : World) (rc : Option Nat) (Qc : Exit → Act → World → Prop), RelH γ h w → RelF γ fr a → RdR γ rd rc →
    (∀ e a' w', Post γ h w Q e a' w' → Qc e a' w') → c.wpIn (fence rc) 0 P Qc a w

/-- A region's operations, in an order. -/
def SO (rd : Option Nat) (ops : Array Oper) (l : List Nat) (fr : AFr) (h : AHeap) (Q : AExit → AFr → AHeap → Prop) : Prop :=
  ∀ (γ : Gam) (a : Act) (w : World) (rc : Option Nat) (Qc : Exit → Act → World → Prop), RelH γ h w → RelF γ fr a → RdR γ rd rc →
    (∀ e a' w', Post γ h w Q e a' w' → Qc e a' w') → wpOpsIn (fence rc) 0 P ops Qc l a w

/-- A call. -/
def SC (f : FuncId) (args : List Value) (h : AHeap) (Q : ARet → AHeap → Prop) : Prop :=
  ∀ (γ : Gam) (as : Array Value) (w : World), RelH γ h w → VRs γ args as.toList → CallsIn Fence.wide 0 P f as w (CPost γ h w Q)
end

section
variable {P : Program} {rd : Option Nat} {fr : AFr} {h : AHeap} {Q : AExit → AFr → AHeap → Prop}

theorem SW.mono {c : Code} {Q' : AExit → AFr → AHeap → Prop} (hq : ∀ x fr h, Q x fr h → Q' x fr h) (s : SW P rd c fr h Q) : SW P rd c fr h Q' :=
  fun γ a w rc Qc r1 r2 r3 k => s γ a w rc Qc r1 r2 r3 fun e a' w' p => k e a' w' (p.mono hq)
theorem SO.mono {ops : Array Oper} {l : List Nat} {Q' : AExit → AFr → AHeap → Prop} (hq : ∀ x fr h, Q x fr h → Q' x fr h) (s : SO P rd ops l fr h Q) : SO P rd ops l fr h Q' :=
  fun γ a w rc Qc r1 r2 r3 k => s γ a w rc Qc r1 r2 r3 fun e a' w' p => k e a' w' (p.mono hq)
theorem SC.mono {f : FuncId} {args : List Value} {Q Q' : ARet → AHeap → Prop} (hq : ∀ x h, Q x h → Q' x h) (s : SC P f args h Q) : SC P f args h Q' :=
  fun γ as w r1 r2 => (s γ as w r1 r2).mono fun _ _ ⟨x, h', γ', q, p⟩ => ⟨x, h', γ', hq _ _ q, p⟩

theorem SW.skip (q : Q .normal fr h) : SW P rd .skip fr h Q :=
  fun γ _ w _ _ r1 r2 _ k => wpIn_skip (k _ _ _ ⟨_, _, _, γ, q, r1, r2, trivial, Fr.refl γ h w⟩)
theorem SW.label {l : Nat} (q : Q .normal fr h) : SW P rd (.label l) fr h Q :=
  fun γ _ w _ _ r1 r2 _ k => wpIn_label (k _ _ _ ⟨_, _, _, γ, q, r1, r2, trivial, Fr.refl γ h w⟩)
theorem SW.exit {id : Nat} (q : Q (.exit id) fr h) : SW P rd (.exit id) fr h Q :=
  fun γ _ w _ _ r1 r2 _ k => wpIn_exit (k _ _ _ ⟨_, _, _, γ, q, r1, r2, rfl, Fr.refl γ h w⟩)
theorem SW.goto {l : Nat} (q : Q (.goto l) fr h) : SW P rd (.goto l) fr h Q :=
  fun γ _ w _ _ r1 r2 _ k => wpIn_goto (k _ _ _ ⟨_, _, _, γ, q, r1, r2, rfl, Fr.refl γ h w⟩)
theorem SW.ret (q : Q .ret fr h) : SW P rd .ret fr h Q :=
  fun γ _ w _ _ r1 r2 _ k => wpIn_ret (k _ _ _ ⟨_, _, _, γ, q, r1, r2, trivial, Fr.refl γ h w⟩)

def andThen (R : AFr → AHeap → Prop) (Q : AExit → AFr → AHeap → Prop) (x : AExit) (fr : AFr) (h : AHeap) : Prop :=
  match x with
  | .normal => R fr h
  | x => Q x fr h

theorem SW.seq {c d : Code} (s : SW P rd c fr h (andThen (fun fr h => SW P rd d fr h Q) Q)) : SW P rd (.seq c d) fr h Q := by
  intro γ a w rc Qc r1 r2 r3 k
  refine wpIn_seq (s γ a w rc _ r1 r2 r3 ?_)
  rintro e a' w' ⟨x, fr', h', γ', q, r, s', t, u⟩
  cases x <;> cases e <;> simp only [ER] at t
  · exact q γ' a' w' rc Qc r s' (r3.mono u.le) fun e a'' w'' p => k e a'' w'' (p.of_fr u)
  all_goals exact k _ _ _ ⟨_, fr', h', γ', q, r, s', t, u⟩

theorem SW.block {id : Nat} {c : Code} (s : SW P rd c fr h (fun x fr' h' => match x with | .exit i => if i = id then Q .normal fr' h' else Q (.exit i) fr' h' | x => Q x fr' h')) :
    SW P rd (.block id c) fr h Q := by
  intro γ a w rc Qc r1 r2 r3 k
  refine wpIn_block (s γ a w rc _ r1 r2 r3 ?_)
  rintro e a' w' ⟨x, fr', h', γ', q, r, s', t, u⟩
  cases x <;> cases e <;> simp only [ER] at t
  case exit.exit i j =>
    subst t
    simp only [Exit.inBlock]
    split
    · rename_i hi; simp only [if_pos hi] at q; exact k _ _ _ ⟨.normal, fr', h', γ', q, r, s', trivial, u⟩
    · rename_i hi; simp only [if_neg hi] at q; exact k _ _ _ ⟨.exit j, fr', h', γ', q, r, s', rfl, u⟩
  all_goals exact k _ _ _ ⟨_, fr', h', γ', q, r, s', t, u⟩

/-- So many rounds of a loop at most. -/
def SR (P : Program) (rd : Option Nat) (c : Code) (Q : AExit → AFr → AHeap → Prop) : Nat → AFr → AHeap → Prop
  | 0, _, _ => False
  | m + 1, fr, h => SW P rd c fr h (andThen (SR P rd c Q m) Q)

theorem SR.rounds {c : Code} : ∀ (m : Nat) (fr : AFr) (h : AHeap), SR P rd c Q m fr h → ∀ (γ : Gam) (a : Act) (w : World) (rc : Option Nat) (Qc : Exit → Act → World → Prop),
    RelH γ h w → RelF γ fr a → RdR γ rd rc → (∀ e a' w', Post γ h w Q e a' w' → Qc e a' w') → Code.roundsIn (fence rc) 0 P c Qc m a w
  | 0, _, _, s, _, _, _, _, _, _, _, _, _ => s.elim
  | m + 1, fr, h, s, γ, a, w, rc, Qc, r1, r2, r3, k => by
    rw [roundsIn_succ]
    refine s γ a w rc _ r1 r2 r3 ?_
    rintro e a' w' ⟨x, fr', h', γ', q, r, s', t, u⟩
    cases x <;> cases e <;> simp only [ER] at t
    · exact SR.rounds m fr' h' q γ' a' w' rc Qc r s' (r3.mono u.le) fun e a'' w'' p => k e a'' w'' (p.of_fr u)
    all_goals exact k _ _ _ ⟨_, fr', h', γ', q, r, s', t, u⟩

theorem SW.loop {c : Code} (m : Nat) (s : SR P rd c Q m fr h) : SW P rd (.loop c) fr h Q :=
  fun γ a w rc Qc r1 r2 r3 k => wpIn_loop_rounds m (SR.rounds m fr h s γ a w rc Qc r1 r2 r3 k)

/-! ### Operands -/
def AFr.opnd (fr : AFr) (h : AHeap) : Operand → Option Value
  | .tmp t => fr.tmps.get t
  | .const v => bif flat v then some v else none
  | .global g => bif Nat.blt g h.ng then some (.pointer (some ⟨g, 0, none⟩)) else none
  | .func f => some (.func (.func f) #[] #[])

theorem RelF.opnd {γ : Gam} {w : World} {a : Act} (r1 : RelH γ h w) (r2 : RelF γ fr a) {x : Operand} {v : Value} (e : fr.opnd h x = some v) : VR γ v (a.eval x) := by
  cases x with
  | tmp t =>
    obtain ⟨v', e1, e2⟩ := r2.tm.at_ t v e
    have : a.eval (.tmp t) = v' := by simp [Act.eval, Array.getD_eq_getD_getElem?, e1]
    rw [this]; exact e2
  | const u =>
    cases hf : flat u with
    | false => simp [AFr.opnd, hf] at e
    | true => simp [AFr.opnd, hf] at e; subst e; exact .flat hf
  | global g =>
    cases hg : Nat.blt g h.ng with
    | false => simp [AFr.opnd, hg] at e
    | true =>
      simp [AFr.opnd, hg] at e; subst e
      have := VR.ptr (o := 0) (r1.glob g (Nat.le_of_ble_eq_true hg))
      simpa [Act.eval] using this
  | func f => simp [AFr.opnd] at e; subst e; exact .func (fun l hl => by cases hl) .nil .nil

theorem SW.cond {c : Operand} {x y : Code} {t : Bool} (hc : fr.opnd h c = some (.bool t)) (s : SW P rd (if t then x else y) fr h Q) : SW P rd (.cond c x y) fr h Q := by
  intro γ a w rc Qc r1 r2 r3 k
  have := (r2.opnd r1 hc).flat_inv rfl
  exact wpIn_cond this (s γ a w rc Qc r1 r2 r3 k)

theorem VR.bool_inv {γ : Gam} {v : Value} (h : VR γ topBool v) : ∃ b, v = .bool b := by
  generalize hx : topBool = x at h
  cases h with
  | anyBool => exact ⟨_, rfl⟩
  | flat e => subst hx; cases e
  | _ => cases hx

theorem SW.cond_any {c : Operand} {x y : Code} (hc : fr.opnd h c = some topBool) (s1 : SW P rd x fr h Q) (s2 : SW P rd y fr h Q) : SW P rd (.cond c x y) fr h Q := by
  intro γ a w rc Qc r1 r2 r3 k
  obtain ⟨b, e⟩ := (r2.opnd r1 hc).bool_inv
  cases b
  · exact wpIn_cond e (s2 γ a w rc Qc r1 r2 r3 k)
  · exact wpIn_cond e (s1 γ a w rc Qc r1 r2 r3 k)

def AFr.put (fr : AFr) (dst : Option Tmp) (v : Value) : AFr :=
  AFr.rec (motive := fun _ => AFr) (fun t n ds => Option.rec (motive := fun _ => AFr) ⟨t, n, ds⟩ (fun d => Bool.rec (motive := fun _ => AFr) ⟨t, n, ds⟩ ⟨t.set d v, n, ds⟩ (Nat.blt d n)) dst) fr
theorem AFr.put_def (fr : AFr) (dst : Option Tmp) (v : Value) : fr.put dst v = match dst with
    | some d => bif Nat.blt d fr.n then { fr with tmps := fr.tmps.set d v } else fr
    | none => fr := by
  obtain ⟨t, n, ds⟩ := fr
  cases dst with
  | none => rfl
  | some d =>
    show (Bool.rec (motive := fun _ => AFr) ⟨t, n, ds⟩ ⟨t.set d v, n, ds⟩ (Nat.blt d n)) = bif Nat.blt d n then _ else _
    cases Nat.blt d n <;> rfl

theorem RelF.put {γ : Gam} {a : Act} (r : RelF γ fr a) {v v' : Value} (hv : VR γ v v') (dst : Option Tmp) : RelF γ (fr.put dst v) (a.put dst v') := by
  cases dst with
  | none => rw [AFr.put_def]; exact r
  | some d =>
    cases hd : Nat.blt d fr.n with
    | false =>
      have : ¬ d < fr.n := fun hlt => by
        have := Nat.ble_eq_true_of_le (n := d + 1) (m := fr.n) hlt
        rw [show Nat.blt d fr.n = Nat.ble (d + 1) fr.n from rfl, this] at hd; cases hd
      have hs : a.tmps.setIfInBounds d v' = a.tmps := by
        apply Array.ext_getElem?
        intro i
        rw [Array.getElem?_setIfInBounds]
        split
        · rename_i hi; subst hi
          rw [if_neg (by rw [r.tm.size]; exact this), Array.getElem?_eq_none (by rw [r.tm.size]; exact Nat.le_of_not_lt this)]
        · rfl
      simp only [AFr.put_def, hd, cond_false, Act.put, hs]; exact r
    | true =>
      have hlt : d < fr.n := Nat.le_of_ble_eq_true hd
      simp only [AFr.put_def, hd, cond_true, Act.put]
      refine ⟨⟨by simpa using r.tm.size, ?_⟩, r.df⟩
      intro t u hu
      rw [PT.get_set] at hu
      rw [Array.getElem?_setIfInBounds]
      by_cases ht : t = d
      · subst ht
        rw [if_pos rfl, Option.some.injEq] at hu; subst hu
        exact ⟨v', by rw [if_pos rfl, if_pos (by rw [r.tm.size]; exact hlt)], hv⟩
      · rw [if_neg ht] at hu
        rw [if_neg (Ne.symm ht)]
        exact r.tm.at_ t u hu

theorem SO.nil {ops : Array Oper} (q : Q .normal fr h) : SO P rd ops [] fr h Q :=
  fun γ _ w _ _ r1 r2 _ k => k _ _ _ ⟨.normal, fr, h, γ, q, r1, r2, trivial, Fr.refl γ h w⟩

theorem SW.region {id : Nat} {ops : Array Oper} (s : SO P rd ops (List.range ops.size) fr h Q) : SW P rd (.region id ops false) fr h Q :=
  fun γ a w rc Qc r1 r2 r3 k => wpIn_region (s γ a w rc Qc r1 r2 r3 k)

/-- An operation that comes to a value (or to nothing). -/
def OpV (P : Program) (o : Oper) (fr : AFr) (h : AHeap) (v : Value) (h' : AHeap) : Prop :=
  ∀ (γ : Gam) (a : Act) (w : World), RelH γ h w → RelF γ fr a → ∃ v' w' γ', ((execOp a.eval o).run P w = .ok (.value v') w' ∨ ((execOp a.eval o).run P w = .ok .skip w' ∧ v' = undef)) ∧
    RelH γ' h' w' ∧ VR γ' v v' ∧ Fr γ h w γ' h' w'

def isDefer (o : Oper) : Bool := match o.op with | .defer _ => true | _ => false

theorem about_wide (rc : Option Nat) (o : Oper) (w : World) (a : Act) : ∀ f, o.about P w a.eval = some f → (fence rc).fn f := fun _ _ => trivial

/-- Whether an operation's guard lets it run; nothing: not known. -/
def AFr.wanted (fr : AFr) (ops : Array Oper) (o : Oper) : Option (Option Bool) :=
  match o.guard with
  | none => some (some true)
  | some (j, want) =>
    match (ops[j]?).bind (·.dst) with
    | some d => match fr.tmps.get d with
      | some (.bool b) => some (some (b == want))
      | some (.complex .f32 1 0) => some none
      | some (.tuple _) => some (some false)
      | _ => none
    | none => none

theorem RelF.wanted {γ : Gam} {a : Act} {ops : Array Oper} {o : Oper} {b : Bool} (r : RelF γ fr a) (e : fr.wanted ops o = some (some b)) : Region.wanted o (yielded ops a.tmps) = b := by
  unfold AFr.wanted at e
  unfold Region.wanted
  split at e
  · rename_i hg; rw [hg]; simpa using e
  · rename_i j want hg
    rw [hg]
    split at e
    · rename_i d hd
      split at e
      · rename_i b' hb
        obtain ⟨v', e1, e2⟩ := r.tm.at_ d _ hb
        have := e2.flat_inv rfl; subst this
        simp only [Option.some.injEq] at e; subst e
        simp only [yielded, hd, Option.bind_some, e1]
        cases b' <;> cases want <;> rfl
      · simp at e
      · rename_i xs hb
        obtain ⟨v', e1, e2⟩ := r.tm.at_ d _ hb
        simp only [Option.some.injEq] at e; subst e
        generalize hx : Value.tuple xs = x at e2
        cases e2 <;> cases hx
        · rename_i hf; cases hf
        · simp only [yielded, hd, Option.bind_some, e1]
          rfl
      · cases e
    · cases e

theorem SO.skip {ops : Array Oper} {i : Nat} {o : Oper} {l : List Nat} (ho : ops[i]? = some o) (hw : fr.wanted ops o = some (some false)) (s : SO P rd ops l (fr.put o.dst undef) h Q) :
    SO P rd ops (i :: l) fr h Q := by
  intro γ a w rc Qc r1 r2 r3 k
  rw [wpOpsIn_cons]
  simp only [wpOpIn, ho, r2.wanted hw, Bool.false_eq_true, if_false]
  exact ⟨about_wide rc o w a, s γ _ w rc Qc r1 (r2.put (.tuple .nil) _) r3 k⟩

theorem SO.value {ops : Array Oper} {i : Nat} {o : Oper} {l : List Nat} {v : Value} {h' : AHeap} (ho : ops[i]? = some o) (hw : fr.wanted ops o = some (some true)) (hd : isDefer o = false)
    (hv : OpV P o fr h v h') (s : SO P rd ops l (fr.put o.dst v) h' Q) : SO P rd ops (i :: l) fr h Q := by
  intro γ a w rc Qc r1 r2 r3 k
  rw [wpOpsIn_cons]
  simp only [wpOpIn, ho, r2.wanted hw, if_true]
  refine ⟨about_wide rc o w a, ?_⟩
  rw [Oper.semAt_eq _ _ _ (by intro c hc; simp [isDefer, hc] at hd)]
  obtain ⟨v', w', γ', hr, rh, hvr, hf⟩ := hv γ a w r1 r2
  have hgo : wpOpsIn (fence rc) 0 P ops Qc l (a.put o.dst v') w' :=
    s γ' _ w' rc Qc rh ((r2.mono hf.le).put hvr _) (r3.mono hf.le) fun e a'' w'' p => k e a'' w'' (p.of_fr hf)
  rcases hr with hr | ⟨hr, rfl⟩ <;> rw [hr] <;> exact hgo

theorem SO.none {ops : Array Oper} {i : Nat} {l : List Nat} (ho : ops[i]? = none) (s : SO P rd ops l fr h Q) : SO P rd ops (i :: l) fr h Q := by
  intro γ a w rc Qc r1 r2 r3 k
  rw [wpOpsIn_cons]
  simp only [wpOpIn, ho]
  exact s γ a w rc Qc r1 r2 r3 k

end
end
end Go.Abs

/- Types and functions at hand; variables read, written and made; results; a call out of its function's body; deferred calls. -/
namespace Go.Abs
noncomputable section

structure Env where
  ti : PT TypeInfo
  fn : PT Func

structure EnvOk (P : Program) (E : Env) : Prop where
  ti : ∀ t i, E.ti.get t = some i → P.info? t = some i
  fn : ∀ f x, E.fn.get f = some x → P.funcs[f]? = some x
  call : ∀ f x, E.fn.get f = some x → x.body.isSome = true → ∀ args w, (callFunc f args).run P w = .ok (.enter f args) w

def Env.und (E : Env) (t : TypeId) : Option TypeDesc :=
  match E.ti.get t with
  | some i => match i.desc with
    | .named _ u => match E.ti.get u with
      | some j => some j.desc
      | none => none
    | d => some d
  | none => none

theorem EnvOk.und {P : Program} {E : Env} (ok : EnvOk P E) {t : TypeId} {d : TypeDesc} (e : E.und t = some d) : P.underlying t = some d := by
  unfold Env.und at e
  unfold Program.underlying
  split at e
  · rename_i i hi
    rw [ok.ti t i hi]
    obtain ⟨desc, str, size, bytes, hp, al, fa, z, cmp, ms⟩ := i
    cases desc <;> simp only at e ⊢ <;> try exact e
    rename_i n u
    split at e
    · rename_i j hj
      rw [ok.ti u j hj]; simpa using e
    · cases e
  · cases e

def aggD : TypeDesc → Bool
  | .struct _ | .array _ _ => true
  | _ => false

section
variable {P : Program} {E : Env} (ok : EnvOk P E)
include ok

theorem run_und {t : TypeId} {d : TypeDesc} (e : E.und t = some d) (w : World) : (underlying t).run P w = .ok d w := by
  simp [underlying, ok.und e]
theorem run_info {t : TypeId} {i : TypeInfo} (e : E.ti.get t = some i) (w : World) : (typeInfo t).run P w = .ok i w := by
  simp [typeInfo, ok.ti t i e]
theorem run_size {t : TypeId} {i : TypeInfo} (e : E.ti.get t = some i) (w : World) : (sizeOf t).run P w = .ok i.size w := by
  simp [sizeOf, run_info ok e]
theorem run_isAgg {t : TypeId} {d : TypeDesc} (e : E.und t = some d) (w : World) : (isAgg t).run P w = .ok (aggD d) w := by
  simp only [isAgg, Sem.run_bind, run_und ok e, Result.andThen_ok]
  cases d <;> rfl
theorem run_zero {t : TypeId} {i : TypeInfo} {v : Value} (e : E.ti.get t = some i) (hz : i.zero = some v) (w : World) : (zeroValue t).run P w = .ok v w := by
  simp [zeroValue, run_info ok e, hz]
end

/-- So many cells of a row, from a place on. -/
def AHeap.loadN (h : AHeap) (b o n : Nat) : Option (List Value) :=
  match n with
  | 0 => some []
  | n + 1 => match h.get b with
    | some (.cells cs _) => cs.gets o (n + 1)
    | _ => none

theorem addr_add (c o i : Nat) : (⟨c, o, none⟩ : Addr).add i = ⟨c, o + i, none⟩ := by unfold Addr.add; split <;> simp_all

theorem RelH.loadL {γ : Gam} {h : AHeap} {w : World} (r : RelH γ h w) {b o n : Nat} {vs : List Value} (e : h.loadN b o n = some vs) {c d : Nat} (hγ : γ b = some (c, d)) :
    ∃ l : List Value, VRs γ vs l ∧ l.length = n ∧ ∀ j v, l[j]? = some v → w.cell? ((⟨c, o + d, none⟩ : Addr).add j) = some v := by
  cases n with
  | zero => simp only [AHeap.loadN, Option.some.injEq] at e; subst e; exact ⟨[], .nil, rfl, fun j v h => by simp at h⟩
  | succ n =>
    simp only [AHeap.loadN] at e
    split at e
    · rename_i cs md hg
      have hlen := PT.gets_length _ _ _ _ e
      have hget := PT.gets_get _ _ _ _ e
      obtain ⟨c', d', o', hγ', hw, ho⟩ := r.obj b _ hg
      rw [hγ, Option.some.injEq, Prod.mk.injEq] at hγ'
      obtain ⟨rfl, rfl⟩ := hγ'
      cases o' <;> simp only [OR] at ho
      rename_i arr el fz
      have hat : ∀ j, j < n + 1 → ∃ v', arr[o + d + j]? = some v' ∧ ∃ v, vs[j]? = some v ∧ VR γ v v' := by
        intro j hj
        have hj' : vs[j]? = some vs[j] := List.getElem?_eq_getElem (by omega)
        obtain ⟨v', h1, h2, _⟩ := ho (o + j) vs[j] (by rw [hget j hj, hj'])
        exact ⟨v', by rw [show o + d + j = o + j + d from by omega]; exact h1, vs[j], hj', h2⟩
      refine ⟨(List.range (n + 1)).map fun j => (arr[o + d + j]?).getD undef, ?_, by simp, ?_⟩
      · refine VRs.of_get (by simp [hlen]) fun i x hx => ?_
        have hi : i < n + 1 := by
          rcases Nat.lt_or_ge i (n + 1) with h | h
          · exact h
          · rw [List.getElem?_eq_none (by omega)] at hx; cases hx
        obtain ⟨v', h1, v, h2, h3⟩ := hat i hi
        rw [h2, Option.some.injEq] at hx; subst hx
        exact ⟨v', by simp [hi, h1], h3⟩
      · intro j v hv
        have hj : j < n + 1 := by
          rcases Nat.lt_or_ge j (n + 1) with h | h
          · exact h
          · rw [List.getElem?_eq_none (by simpa using h)] at hv; cases hv
        obtain ⟨v', h1, _⟩ := hat j hj
        have : v = v' := by simpa [hj, h1] using hv.symm
        subst this
        rw [addr_add]
        simp [World.cell?, hw, h1]
    · cases e

theorem RelH.loadN {γ : Gam} {h : AHeap} {w : World} (r : RelH γ h w) {b o n : Nat} {vs : List Value} (e : h.loadN b o n = some vs) {c d : Nat} (hγ : γ b = some (c, d)) (P : Program) :
    ∃ vs', (loadCells ⟨c, o + d, none⟩ n).run P w = .ok vs' w ∧ VRs γ vs vs'.toList := by
  obtain ⟨l, hl, hn, hc⟩ := r.loadL e hγ
  refine ⟨l.toArray, ?_, by simpa using hl⟩
  have := run_loadCells_list (P := P) (w := w) ⟨c, o + d, none⟩ l hc
  rw [hn] at this
  exact this

def AHeap.storeN (h : AHeap) (b o : Nat) (vs : List Value) : Option AHeap :=
  match vs with
  | [] => some h
  | _ => match h.get b with
    | some (.cells cs (.rw sn)) => bif (cs.gets o vs.length).isSome && vs.all oneCell then some ((h.kills sn).set b (.cells (cs.puts o vs) (.rw []))) else none
    | _ => none

theorem RelH.storeN {γ : Gam} {h h' : AHeap} {w : World} (r : RelH γ h w) {b o : Nat} {vs vs' : List Value} (e : h.storeN b o vs = some h') {c d : Nat} (hγ : γ b = some (c, d))
    (hv : VRs γ vs vs') (P : Program) : ∃ w', (storeCells ⟨c, o + d, none⟩ vs').run P w = .ok () w' ∧ RelH γ h' w' ∧ Fr γ h w γ h' w' := by
  cases vs with
  | nil =>
    simp only [AHeap.storeN, Option.some.injEq] at e; subst e
    cases hv
    exact ⟨w, rfl, r, Fr.refl γ h w⟩
  | cons x xs =>
    simp only [AHeap.storeN] at e
    split at e
    · rename_i cs sn hg
      cases hgs : (cs.gets o (x :: xs).length).isSome && (x :: xs).all oneCell with
      | false => rw [hgs] at e; cases e
      | true =>
        rw [hgs] at e
        simp only [cond_true, Option.some.injEq] at e
        subst e
        simp only [Bool.and_eq_true] at hgs
        obtain ⟨hgs, hone⟩ := hgs
        obtain ⟨us, hus⟩ := Option.isSome_iff_exists.1 hgs
        obtain ⟨c', d', o', hγ', hw, ho⟩ := r.obj b _ hg
        rw [hγ, Option.some.injEq, Prod.mk.injEq] at hγ'
        obtain ⟨rfl, rfl⟩ := hγ'
        cases o' <;> simp only [OR] at ho
        rename_i arr el fz
        have hlen := hv.length
        have hone' : ∀ v ∈ vs', v.oneCell' = true := by
          intro v hvm
          obtain ⟨i, hi, rfl⟩ := List.getElem_of_mem hvm
          have hi' : i < (x :: xs).length := by omega
          obtain ⟨y, hy, hr⟩ := hv.get i _ (List.getElem?_eq_getElem hi')
          have : vs'[i] = y := by simpa [List.getElem?_eq_getElem hi] using hy
          rw [this, ← oneCell_eq, hr.oneCell]
          exact (List.all_eq_true.1 hone) _ (List.getElem_mem hi')
        obtain ⟨w', arr', hr, ha, hk, hz, hos, htp, hout, hsz, hm⟩ := run_storeCells P c (o + d) vs' 0 w arr el fz hw
          (by
            intro j hj
            have hj' : j < (x :: xs).length := by omega
            have hul := PT.gets_length _ _ _ _ hus
            have hju : us[j]? = some us[j] := List.getElem?_eq_getElem (by omega)
            obtain ⟨v', h1, _, h3⟩ := ho (o + j) us[j] (by rw [PT.gets_get _ _ _ _ hus j hj', hju])
            rw [show o + d + 0 + j = o + j + d from by omega]
            exact ⟨v', h1, h3 rfl⟩)
          hone'
        refine ⟨w', hr, ?_⟩
        refine r.write hg hγ hw hsz ha hk hz hos htp hout ?_
        intro i v hiv
        rw [PT.get_puts] at hiv
        by_cases hin : o ≤ i ∧ i < o + (x :: xs).length
        · rw [if_pos hin] at hiv
          obtain ⟨y, hy, hr'⟩ := hv.get (i - o) v hiv
          refine ⟨y, ?_, hr', ?_⟩
          · rw [hm, if_pos (by omega), show i + d - (o + d + 0) = i - o from by omega]; exact hy
          · have hul := PT.gets_length _ _ _ _ hus
            have hju : us[i - o]? = some us[i - o] := List.getElem?_eq_getElem (by omega)
            obtain ⟨_, _, _, h3⟩ := ho i us[i - o] (by
              have := PT.gets_get _ _ _ _ hus (i - o) (by omega)
              rw [show o + (i - o) = i from by omega] at this
              rw [this, hju])
            exact h3 rfl
        · rw [if_neg hin] at hiv
          obtain ⟨v', h1, h2, h3⟩ := ho i v hiv
          exact ⟨v', by rw [hm, if_neg (by omega)]; exact h1, h2, h3 rfl⟩
    · cases e

/-- A variable of a type, read. -/
def Env.loadVar (E : Env) (h : AHeap) (t : TypeId) (b o : Nat) : Option Value :=
  match E.ti.get t with
  | some i => match E.und t with
    | some d => bif aggD d then (match h.loadN b o i.size with
        | some vs => some (.agg vs.toArray)
        | none => none) else h.load1 b o
    | none => none
  | none => none

theorem run_loadVar {P : Program} {E : Env} (ok : EnvOk P E) {γ : Gam} {h : AHeap} {w : World} (r : RelH γ h w) {t : TypeId} {b o : Nat} {v : Value} (e : E.loadVar h t b o = some v)
    {c d : Nat} (hγ : γ b = some (c, d)) : ∃ v', (loadVar t ⟨c, o + d, none⟩).run P w = .ok v' w ∧ VR γ v v' := by
  unfold Env.loadVar at e
  split at e
  · rename_i i hi
    split at e
    · rename_i td htd
      unfold Go.loadVar
      simp only [Sem.run_bind, run_isAgg ok htd, Result.andThen_ok]
      cases ha : aggD td with
      | true =>
        rw [ha] at e
        simp only [cond_true] at e
        split at e
        · rename_i vs hvs
          simp only [Option.some.injEq] at e; subst e
          obtain ⟨vs', h1, h2⟩ := r.loadN hvs hγ P
          simp only [if_true, Sem.run_bind, run_size ok hi, Result.andThen_ok, h1, Sem.run_pure]
          exact ⟨_, rfl, .agg (by simpa using h2)⟩
        · cases e
      | false =>
        rw [ha] at e
        simp only [cond_false] at e
        obtain ⟨c', d', v', hγ', hc, hv⟩ := r.load e
        rw [hγ, Option.some.injEq, Prod.mk.injEq] at hγ'
        obtain ⟨rfl, rfl⟩ := hγ'
        simp only [Bool.false_eq_true, if_false, run_load, hc]
        exact ⟨v', rfl, hv⟩
    · cases e
  · cases e

/-- The cells of a value. -/
def cellsL : Value → List Value
  | .agg cs => cs.toList
  | v => [v]
theorem cellsL_eq (v : Value) : v.cells.toList = cellsL v := by cases v <;> rfl
theorem VR.cells {γ : Gam} {v v' : Value} (h : VR γ v v') : VRs γ (cellsL v) (cellsL v') := by
  cases h with
  | agg e => exact e
  | any e =>
    have : cellsL v' = [v'] := by cases v' <;> first | rfl | (simp [Abs.oneCell] at e)
    rw [this]; exact .cons (.any e) .nil
  | flat e => cases v <;> first | exact .cons (.flat e) .nil | (simp [Abs.flat] at e)
  | ptr e => exact .cons (.ptr e) .nil
  | slice e c n => exact .cons (.slice e c n) .nil
  | slice0 => exact .cons .slice0 .nil
  | map e => exact .cons (.map e) .nil
  | chan e => exact .cons (.chan e) .nil
  | func n a b => exact .cons (.func n a b) .nil
  | yield e => exact .cons (.yield e) .nil
  | iface e => exact .cons (.iface e) .nil
  | tuple e => exact .cons (.tuple e) .nil
  | anyBool => exact .cons .anyBool .nil
  | anyStr e => exact .cons (.anyStr e) .nil
  | anyInt a b => exact .cons (.anyInt a b) .nil
  | anyIv a b => exact .cons (.anyIv a b) .nil
  | anySl a b => exact .cons (.anySl a b) .nil

def Env.storeVar (E : Env) (h : AHeap) (t : TypeId) (b o : Nat) (v : Value) : Option AHeap :=
  match E.ti.get t with
  | some i => bif Nat.beq (cellsL v).length i.size then h.storeN b o (cellsL v) else none
  | none => none

theorem run_storeVar {P : Program} {E : Env} (ok : EnvOk P E) {γ : Gam} {h h' : AHeap} {w : World} (r : RelH γ h w) {t : TypeId} {b o : Nat} {v v' : Value} (e : E.storeVar h t b o v = some h')
    {c d : Nat} (hγ : γ b = some (c, d)) (hv : VR γ v v') : ∃ w', (storeVar t ⟨c, o + d, none⟩ v').run P w = .ok () w' ∧ RelH γ h' w' ∧ Fr γ h w γ h' w' := by
  unfold Env.storeVar at e
  split at e
  · rename_i i hi
    cases hb : Nat.beq (cellsL v).length i.size with
    | false => rw [hb] at e; cases e
    | true =>
      rw [hb] at e
      simp only [cond_true] at e
      have hl := Nat.eq_of_beq_eq_true hb
      obtain ⟨w', h1, h2⟩ := r.storeN e hγ hv.cells P
      refine ⟨w', ?_, h2⟩
      unfold Go.storeVar
      have hsz : v'.cells.size = i.size := by rw [← hl, ← hv.cells.length, ← cellsL_eq]; simp
      simp only [Sem.run_bind, run_size ok hi, Result.andThen_ok, hsz, ne_eq, not_true_eq_false, if_false, cellsL_eq]
      exact h1
  · cases e

/-- A new row. -/
theorem RelH.newRow {γ : Gam} {h : AHeap} {w : World} (r : RelH γ h w) {vs vs' : List Value} (hv : VRs γ vs vs') (el : TypeId) :
    RelH (γ.put h.next w.heap.size 0) (h.alloc (.cells (PT.leaf.puts 0 vs) (.rw []))) (w.alloc (.cells vs'.toArray el)) ∧
      Fr γ h w (γ.put h.next w.heap.size 0) (h.alloc (.cells (PT.leaf.puts 0 vs) (.rw []))) (w.alloc (.cells vs'.toArray el)) := by
  refine r.alloc ?_
  simp only [OR]
  intro i v e
  rw [PT.get_puts] at e
  split at e
  · obtain ⟨y, hy, hr⟩ := hv.get _ _ e
    exact ⟨y, by simpa using hy, hr.mono (Gam.le_put _ _ r.fresh), fun _ => by simp⟩
  · rw [PT.get_leaf] at e; cases e

theorem run_newRow (P : Program) (el : TypeId) (cells : Array Value) (w : World) : (newRow el cells).run P w = .ok ⟨w.heap.size, 0, none⟩ (w.alloc (.cells cells el)) := by
  simp [newRow]

end
end Go.Abs

/- Results; a call out of its function's body; deferred calls; calls, and loops over functions, among a region's operations. -/
namespace Go.Abs
noncomputable section

/-! ### Results -/
def Env.result1 (E : Env) (fr : AFr) (h : AHeap) : ResultVar → Option Value
  | .tmp t => fr.tmps.get t
  | .cell a t => match fr.tmps.get a with
    | some (.pointer (some ⟨b, o, none⟩)) => E.loadVar h t b o
    | _ => none

def Env.resultsL (E : Env) (fr : AFr) (h : AHeap) : List ResultVar → Option (List Value)
  | [] => some []
  | x :: xs => match E.result1 fr h x with
    | some v => match E.resultsL fr h xs with
      | some vs => some (v :: vs)
      | none => none
    | none => none

def tupleOf : List Value → Value
  | [v] => v
  | vs => .tuple vs.toArray

def Env.results (E : Env) (fn : Func) (fr : AFr) (h : AHeap) : Option Value :=
  match E.resultsL fr h fn.results.toList with
  | some vs => some (tupleOf vs)
  | none => none

def resSem (tmps : Array Value) : ResultVar → Sem Value
  | .tmp t => pure (tmps.getD t undef)
  | .cell a t => do loadVar t (← asAddr (tmps.getD a undef))

theorem results_eq (fn : Func) (tmps : Array Value) : Go.results fn tmps = (do let vs ← fn.results.mapM (resSem tmps); pure (if h : vs.size = 1 then vs[0] else .tuple vs)) := by
  unfold Go.results
  congr 1

section
variable {P : Program} {E : Env} (ok : EnvOk P E)
include ok

theorem run_result1 {γ : Gam} {h : AHeap} {w : World} (r : RelH γ h w) {fr : AFr} {tmps : Array Value} (tm : TmR γ fr.tmps fr.n tmps) {x : ResultVar} {v : Value} (e : E.result1 fr h x = some v) :
    ∃ v', (resSem tmps x).run P w = .ok v' w ∧ VR γ v v' := by
  cases x with
  | tmp t =>
    obtain ⟨v', h1, h2⟩ := tm.at_ t v e
    exact ⟨v', by simp [resSem, Array.getD_eq_getD_getElem?, h1], h2⟩
  | cell a t =>
    simp only [Env.result1] at e
    split at e
    · rename_i b o hg
      obtain ⟨v', h1, h2⟩ := tm.at_ a _ hg
      cases h2 with
      | flat hf => cases hf
      | ptr hγ =>
        obtain ⟨u, h3, h4⟩ := run_loadVar ok r e hγ
        refine ⟨u, ?_, h4⟩
        simp only [resSem, Array.getD_eq_getD_getElem?, h1, Option.getD_some, asAddr, Sem.run_bind, Sem.run_pure, Result.andThen_ok]
        exact h3
    · cases e

theorem run_resultsL {γ : Gam} {h : AHeap} {w : World} (r : RelH γ h w) {fr : AFr} {tmps : Array Value} (tm : TmR γ fr.tmps fr.n tmps) : ∀ (xs : List ResultVar) (vs : List Value), E.resultsL fr h xs = some vs →
    ∃ vs', (xs.mapM (resSem tmps)).run P w = .ok vs' w ∧ VRs γ vs vs'
  | [], vs, e => by simp only [Env.resultsL, Option.some.injEq] at e; subst e; exact ⟨[], by simp, .nil⟩
  | x :: xs, vs, e => by
    simp only [Env.resultsL] at e
    split at e
    · rename_i v hv
      split at e
      · rename_i us hu
        simp only [Option.some.injEq] at e; subst e
        obtain ⟨v', h1, h2⟩ := run_result1 ok r tm hv
        obtain ⟨us', h3, h4⟩ := run_resultsL r tm xs us hu
        refine ⟨v' :: us', ?_, .cons h2 h4⟩
        rw [List.mapM_cons, Sem.run_bind, h1, Result.andThen_ok, Sem.run_bind, h3]
        rfl
      · cases e
    · cases e

theorem run_results {γ : Gam} {h : AHeap} {w : World} (r : RelH γ h w) {fr : AFr} {tmps : Array Value} (tm : TmR γ fr.tmps fr.n tmps) {fn : Func} {v : Value} (e : E.results fn fr h = some v) :
    ∃ v', (results fn tmps).run P w = .ok v' w ∧ VR γ v v' := by
  unfold Env.results at e
  split at e
  · rename_i vs hvs
    simp only [Option.some.injEq] at e; subst e
    obtain ⟨vs', h1, h2⟩ := run_resultsL ok r tm _ _ hvs
    refine ⟨if h : vs'.toArray.size = 1 then vs'.toArray[0] else .tuple vs'.toArray, ?_, ?_⟩
    · rw [results_eq, Array.mapM_eq_mapM_toList]
      simp only [Sem.run_bind, Sem.run_map]
      rw [h1]
      rfl
    · have hl := h2.length
      cases h2 with
      | nil => exact .tuple .nil
      | cons a b => cases b with
        | nil => simpa [tupleOf] using a
        | cons c d =>
          rw [dif_neg (by simp)]
          exact .tuple (by simpa [tupleOf] using VRs.cons a (.cons c d))
  · cases e
end

/-! ### Leaving a function -/
/-- A deferred call of a function that returns. -/
def SD (P : Program) (f : FuncId) (args : List Value) (h : AHeap) (Q : AHeap → Prop) : Prop :=
  ∀ (γ : Gam) (as : Array Value) (w : World), RelH γ h w → VRs γ args as.toList →
    CallsDIn Fence.wide 0 P f as .returning w fun e u' w' => (∃ v, e = .returned v) ∧ u' = .returning ∧ ∃ h' γ', Q h' ∧ RelH γ' h' w' ∧ Fr γ h w γ' h' w'

def SL (P : Program) (fn : Func) (fr : AFr) (ds : List ADef) (h : AHeap) (Q : ARet → AHeap → Prop) : Prop :=
  ∀ (γ : Gam) (tmps : Array Value) (dsc : List Deferred) (w : World) (R : Ending → World → Prop), RelH γ h w → TmR γ fr.tmps fr.n tmps → DRs γ ds dsc → (∀ e w', CPost γ h w Q e w' → R e w') →
    LeavesInM Fence.wide 0 P fn tmps R dsc .returning w

section
variable {P : Program} {E : Env} (ok : EnvOk P E) {fn : Func} {fr : AFr} {h : AHeap} {Q : ARet → AHeap → Prop}

include ok in
theorem SL.nil {v : Value} (e : E.results fn fr h = some v) (q : Q (.ret v) h) : SL P fn fr [] h Q := by
  intro γ tmps dsc w R r1 r2 r3 k
  cases dsc with
  | cons _ _ => exact r3.elim
  | nil =>
    obtain ⟨v', h1, h2⟩ := run_results ok r1 r2 e
    exact ⟨v', h1, k _ _ ⟨_, h, γ, q, r1, h2, Fr.refl γ h w⟩⟩

theorem SL.mark {b : Nat} {ds : List ADef} (hg : h.get b = some (.marks true)) (s : SL P fn fr ds (h.set b (.marks false)) Q) : SL P fn fr (.mark b :: ds) h Q := by
  intro γ tmps dsc w R r1 r2 r3 k
  cases dsc with
  | nil => exact r3.elim
  | cons d dsc =>
    obtain ⟨⟨c, hc, rfl⟩, r3⟩ := r3
    obtain ⟨c', d', o', hγ, hw, ho⟩ := r1.obj b _ hg
    rw [hc, Option.some.injEq, Prod.mk.injEq] at hγ
    obtain ⟨rfl, rfl⟩ := hγ
    cases o' <;> simp only [OR] at ho
    obtain ⟨_, rfl⟩ := ho
    simp only [if_true] at hw
    obtain ⟨r1', hf⟩ := r1.setObj hg rfl hc (o := .marks false) (o' := .deferred none) ⟨rfl, rfl⟩
    refine ⟨by simp, .inl ⟨c, _, rfl, ?_, s γ tmps dsc _ R r1' r2 r3 fun e w' p => k e w' (p.of_fr hf)⟩⟩
    simp only [Instr.takeDeferred, Sem.run_bind, getObj, Sem.run, hw, Result.andThen_ok, setObj, Sem.run_pure]

include ok in
theorem SL.dcall {f : FuncId} {as : List Value} {ds : List ADef} {g : Func} (hf : E.fn.get f = some g) (hb : g.body.isSome = true) (s : SD P f as h (fun h' => SL P fn fr ds h' Q)) : SL P fn fr (.fn f as :: ds) h Q := by
  intro γ tmps dsc w R r1 r2 r3 k
  cases dsc with
  | nil => exact r3.elim
  | cons d dsc =>
    obtain ⟨⟨args, cap, rfl, hv⟩, r3⟩ := r3
    refine ⟨by simp, .inr ⟨fun hd => by simp [Fence.wide] at hd, .func f, cap, f, args ++ cap, rfl, ?_, fun _ _ => trivial, ?_⟩⟩
    · simp only [invoke]; exact ok.call f g hf hb _ w
    · obtain ⟨_, hcall⟩ := s γ (args ++ cap) w r1 hv
      refine ⟨trivial, fun c cs hu hroom => ?_⟩
      obtain ⟨e, u', w', frx, ⟨⟨v, rfl⟩, rfl, h', γ', hs, rh, hfr⟩, hrest⟩ := hcall c cs hu hroom
      exact ⟨.returned v, .returning, w', frx, hs γ' tmps dsc w' R rh (r2.mono hfr.le) (r3.mono hfr.le) (fun e w'' p => k e w'' (p.of_fr hfr)), hrest⟩

/-- The frame in which a function begins. -/
def frame0 (fn : Func) (args : List Value) : AFr := frc (args.length + (fn.ntmps - args.length)) fun n => { tmps := PT.leaf.puts 0 args, n := n, defers := [] }

theorem RelF.frame0 {γ : Gam} {args : List Value} {as : Array Value} (hv : VRs γ args as.toList) : RelF γ (Abs.frame0 fn args) { tmps := as ++ Array.replicate (fn.ntmps - as.size) undef, defers := [] } := by
  have hl : as.size = args.length := by simpa using hv.length
  refine ⟨⟨by simp [Abs.frame0, frc_eq, hl], ?_⟩, trivial⟩
  intro t v e
  simp only [Abs.frame0, frc_eq] at e
  rw [PT.get_puts] at e
  split at e
  · rename_i ht
    obtain ⟨y, hy, hr⟩ := hv.get _ _ e
    refine ⟨y, ?_, hr⟩
    simp only [Array.getElem?_append]
    rw [if_pos (by omega)]
    simpa using hy
  · rw [PT.get_leaf] at e; cases e

include ok in
/-- A call, out of its function's body. -/
theorem SC.body {f : FuncId} {args : List Value} {c : Code} (hf : E.fn.get f = some fn) (hb : fn.body = some c)
    (s : SW P none c (frame0 fn args) h (fun x fr' h' => (match x with | .normal => True | .ret => True | _ => False) ∧ SL P fn fr' fr'.defers h' Q)) : SC P f args h Q := by
  intro γ as w r1 r2
  refine callsIn_of_wp_marks (ok.fn f fn hf) hb trivial ?_
  refine s γ _ w none _ r1 (RelF.frame0 r2) trivial ?_
  rintro e a' w' ⟨x, fr', h', γ', ⟨hx, q⟩, rh, rf, er, hfr⟩
  cases x <;> cases e <;> simp only [ER] at er <;> simp only at hx
  all_goals exact q γ' a'.tmps a'.defers w' _ rh rf.tm rf.df fun e w'' p => p.of_fr hfr

include ok in
/-- A deferred call that begins by asking recover, of a function that returns: there is nothing to recover. -/
theorem SD.recover {f : FuncId} {args : List Value} {id : Nat} {o : Oper} {rest : Code} {Q : AHeap → Prop} (hf : E.fn.get f = some fn) (hb : fn.body = some (.seq (.region id #[o] false) rest))
    {ts : Array TypeId} (ho : o.op = .call { callee := .builtin .recover, args := #[], argTypes := ts }) (hgd : o.guard = none)
    (s : SW P none rest ((frame0 fn args).put o.dst .nilIface) h (fun x fr' h' => (match x with | .normal => True | .ret => True | _ => False) ∧ fr'.defers = [] ∧ (E.results fn fr' h').isSome = true ∧ Q h')) : SD P f args h Q := by
  intro γ as w r1 r2
  refine callsDIn_of_wpSIn (ok.fn f fn hf) hb trivial ?_
  intro c₀ cs hu
  refine wpSIn_seq (wpSIn_region ?_)
  simp only [List.range_succ, List.size_toArray, List.length_cons, List.length_nil, List.range_zero, List.nil_append]
  simp only [wpOpsSIn, List.getElem?_toArray, List.getElem?_cons_zero]
  refine ⟨fun _ _ => trivial, ?_⟩
  have hw : Region.wanted o (yielded #[o] (as ++ Array.replicate (fn.ntmps - as.size) undef)) = true := by simp [Region.wanted, hgd]
  rw [if_pos hw]
  have hrun : ∀ ρ, (execOp ρ o).run P w = .ok .recover w := by
    intro ρ
    simp only [execOp, ho, resolve, Sem.run_bind]
    rfl
  rw [hrun]
  have hrec : recoverD (c₀ :: cs) = none := by simp [recoverD, hu]
  simp only [hrec]
  refine wpSIn_of_wpIn rfl ?_
  refine s γ _ w none _ r1 ((RelF.frame0 r2).put (.flat rfl) _) trivial ?_
  rintro e a' w' ⟨x, fr', h', γ', ⟨hx, hd, hres, q⟩, rh, rf, er, hfr⟩
  obtain ⟨v, hv⟩ := Option.isSome_iff_exists.1 hres
  obtain ⟨v', h1, h2⟩ := run_results ok rh rf.tm hv
  have hdf : a'.defers = [] := by
    have := rf.df
    rw [hd] at this
    cases hh : a'.defers with
    | nil => rfl
    | cons _ _ => rw [hh] at this; exact this.elim
  have hcc : c₀ :: cs = { c₀ with mode := .returning } :: cs := by rw [← hu]
  cases x <;> cases e <;> simp only [ER] at er <;> simp only at hx
  all_goals exact ⟨hdf, .returning, hcc, v', h1, ⟨v', rfl⟩, rfl, h', γ', q, rh, hfr⟩
end

end
end Go.Abs

/- Calls and rounds among a region's operations; a loop over a function. -/
namespace Go.Abs
noncomputable section

def AFr.opnds (fr : AFr) (h : AHeap) : List Operand → Option (List Value)
  | [] => some []
  | x :: xs => match fr.opnd h x with
    | some v => match fr.opnds h xs with
      | some vs => some (v :: vs)
      | none => none
    | none => none

theorem RelF.opnds {γ : Gam} {fr : AFr} {h : AHeap} {w : World} {a : Act} (r1 : RelH γ h w) (r2 : RelF γ fr a) : ∀ {xs : List Operand} {vs : List Value}, fr.opnds h xs = some vs → VRs γ vs (xs.map a.eval)
  | [], vs, e => by simp only [AFr.opnds, Option.some.injEq] at e; subst e; exact .nil
  | x :: xs, vs, e => by
    simp only [AFr.opnds] at e
    split at e
    · rename_i v hv
      split at e
      · rename_i us hu
        simp only [Option.some.injEq] at e; subst e
        exact .cons (r2.opnd r1 hv) (RelF.opnds r1 r2 hu)
      · cases e
    · cases e

section
variable {P : Program} {E : Env} (ok : EnvOk P E) {rd : Option Nat} {fr : AFr} {h : AHeap} {Q : AExit → AFr → AHeap → Prop} {ops : Array Oper} {i : Nat} {o : Oper} {l : List Nat}

theorem callsIn_fence {rc : Option Nat} {n n' : Nat} {f : FuncId} {args : Array Value} {w : World} {R : Ending → World → Prop} (hc : CallsIn Fence.wide n P f args w R) : CallsIn (fence rc) n' P f args w R :=
  ⟨trivial, fun cs _ => hc.2 cs (room_wide _)⟩

theorem VR.func_inv {γ : Gam} {fn : Fn} {fs cs : Array Value} {v : Value} (hv : VR γ (.func fn fs cs) v) (hn : ∀ b, fn ≠ .yield b) : ∃ fs' cs', v = .func fn fs' cs' ∧ VRs γ fs.toList fs'.toList ∧ VRs γ cs.toList cs'.toList := by
  generalize hx : Value.func fn fs cs = x at hv
  cases hv with
  | func n a b => cases hx; exact ⟨_, _, rfl, a, b⟩
  | yield e => cases hx; exact absurd rfl (hn _)
  | flat e => subst hx; cases e
  | _ => cases hx

theorem VR.yield_inv {γ : Gam} {b : Nat} {fs cs : Array Value} {v : Value} (hv : VR γ (.func (.yield b) fs cs) v) : ∃ c, v = .func (.yield c) #[] #[] ∧ γ b = some (c, 0) := by
  generalize hx : Value.func (.yield b) fs cs = x at hv
  cases hv with
  | func n a b => cases hx; exact absurd rfl (n _)
  | yield e => cases hx; exact ⟨_, rfl, e⟩
  | flat e => subst hx; cases e
  | _ => cases hx

include ok in
theorem SO.call {x : Operand} {args : Array Operand} {ts : Array TypeId} {f : FuncId} {fs cs : Array Value} {vs : List Value} {g : Func}
    (ho : ops[i]? = some o) (hop : o.op = .call { callee := .value x, args := args, argTypes := ts }) (hw : fr.wanted ops o = some (some true))
    (hx : fr.opnd h x = some (.func (.func f) fs cs)) (ha : fr.opnds h args.toList = some vs) (hf : E.fn.get f = some g) (hb : g.body.isSome = true)
    (s : SC P f (fs.toList ++ vs ++ cs.toList) h (fun r h' => match r with | .ret v => SO P rd ops l (fr.put o.dst v) h' Q | .pan _ => False)) : SO P rd ops (i :: l) fr h Q := by
  intro γ a w rc Qc r1 r2 r3 k
  rw [wpOpsIn_cons]
  simp only [wpOpIn, ho, r2.wanted hw, if_true]
  refine ⟨about_wide rc o w a, ?_⟩
  rw [Oper.semAt_eq _ _ _ (by intro c hc; rw [hop] at hc; cases hc)]
  obtain ⟨fs', cs', hev, h1, h2⟩ := (r2.opnd r1 hx).func_inv (by intro b hb; cases hb)
  have hargs := r2.opnds r1 ha
  have hrun : (execOp a.eval o).run P w = .ok (.enter f (fs' ++ args.map a.eval ++ cs')) w := by
    simp only [execOp, hop, resolve, hev, Deferred.ofValue, Sem.run_bind, Sem.run_pure, Result.andThen_ok, invoke]
    exact ok.call f g hf hb _ w
  rw [hrun]
  refine ⟨fun hd => by simp [fence, Fence.wide] at hd, callsIn_fence (CallsIn.mono (s γ _ w r1 ?_) ?_)⟩
  · simpa using (h1.append hargs).append h2
  · rintro e w' ⟨r, h', γ', q, rh, rr, hfr⟩
    cases r with
    | pan v => exact q.elim
    | ret v =>
      cases e <;> simp only [RR] at rr
      exact q γ' _ w' rc Qc rh ((r2.mono hfr.le).put rr _) (r3.mono hfr.le) fun e a'' w'' p => k e a'' w'' (p.of_fr hfr)

/-- Yield's parameters are written. -/
def setParams (tm : PT Value) (n : Nat) : List Tmp → List Value → PT Value
  | p :: ps, v :: vs => setParams (bif Nat.blt p n then tm.set p v else tm) n ps vs
  | _, _ => tm

theorem TmR.setParams {γ : Gam} {n : Nat} : ∀ (ps : List Tmp) {tm : PT Value} {arr : Array Value} {vs vs' : List Value}, TmR γ tm n arr → VRs γ vs vs' →
    TmR γ (Abs.setParams tm n ps vs) n ((ps.zip vs').foldl (fun tmps (t, a) => tmps.setIfInBounds t a) arr)
  | [], _, _, _, _, r, _ => by simpa [Abs.setParams] using r
  | _ :: _, _, _, _, _, r, .nil => by simpa [Abs.setParams] using r
  | p :: ps, tm, arr, _, _, r, .cons (v := v) (v' := v') a b => by
    simp only [Abs.setParams, List.zip_cons_cons, List.foldl_cons]
    refine TmR.setParams ps ?_ b
    have := RelF.put (fr := { tmps := tm, n := n, defers := [] }) (a := { tmps := arr, defers := [] }) ⟨r, trivial⟩ a (some p)
    have t := this.tm
    simp only [AFr.put_def] at t
    cases hd : Nat.blt p n with
    | false => simp only [hd, cond_false] at t ⊢; exact t
    | true => simp only [hd, cond_true] at t ⊢; exact t

theorem RelH.loop {γ : Gam} {w : World} (r : RelH γ h w) {b : Nat} {L : ALoop} (hg : h.get b = some (.loop L)) {c : Nat} (hc : γ b = some (c, 0)) : ∃ R, w.heap[c]? = some (.loop R) ∧ LoopR γ L R := by
  obtain ⟨c', d', o', hγ, hw, ho⟩ := r.obj b _ hg
  rw [hc, Option.some.injEq, Prod.mk.injEq] at hγ
  obtain ⟨rfl, rfl⟩ := hγ
  cases o' <;> simp only [OR] at ho
  exact ⟨_, hw, ho.2⟩

def roundEnd (L : ALoop) (j : Option Code) : ALoop := { L with state := if j.isNone then .ready else .done, pending := j }

/-- What a round leaves behind it, by the way its body is left. -/
def jumpOf : AExit → Option (Option Code)
  | .normal => some none
  | .ret => some (some .ret)
  | .exit id => some (some (.exit id))
  | .goto t => some (some (.goto t))
  | .panic _ => none

theorem SO.yield {x : Operand} {args : Array Operand} {ts : Array TypeId} {b : Nat} {fs cs : Array Value} {vs : List Value} {L : ALoop}
    (ho : ops[i]? = some o) (hop : o.op = .call { callee := .value x, args := args, argTypes := ts }) (hw : fr.wanted ops o = some (some true))
    (hx : fr.opnd h x = some (.func (.yield b) fs cs)) (ha : fr.opnds h args.toList = some vs) (hg : h.get b = some (.loop L)) (hn : vs.length = L.params.size)
    (s : SW P (some b) L.assign { tmps := setParams L.tmps L.n L.params.toList vs, n := L.n, defers := [] } h (fun x fr1 h1 => (match x with | .normal => True | _ => False) ∧ ∃ L1, h1.get b = some (.loop L1) ∧ L1.state = .ready ∧
      SW P (some b) L.body fr1 (h1.set b (.loop { L1 with state := .busy })) (fun x _ h2 => ∃ L2 j, h2.get b = some (.loop L2) ∧ jumpOf x = some j ∧
        SO P rd ops l (fr.put o.dst (.bool j.isNone)) (h2.set b (.loop (roundEnd L2 j))) Q))) : SO P rd ops (i :: l) fr h Q := by
  intro γ a w rc Qc r1 r2 r3 k
  rw [wpOpsIn_cons]
  simp only [wpOpIn, ho, r2.wanted hw, if_true]
  refine ⟨about_wide rc o w a, ?_⟩
  rw [Oper.semAt_eq _ _ _ (by intro c hc; rw [hop] at hc; cases hc)]
  obtain ⟨c, hev, hc⟩ := (r2.opnd r1 hx).yield_inv
  have hargs := r2.opnds r1 ha
  obtain ⟨R, hR, hLR⟩ := r1.loop hg hc
  have hsz : (args.map a.eval).size = R.params.size := by
    have := hargs.length
    simp only [List.length_map, Array.length_toList] at this
    rw [Array.size_map, this, hn, hLR.params]
  have hrun : (execOp a.eval o).run P w = .ok (.round c R.fn ((R.params.zip (args.map a.eval)).foldl (fun tmps (t, a) => tmps.setIfInBounds t a) R.tmps) R.assign R.body) w := by
    simp only [execOp, hop, resolve, hev, Deferred.ofValue, Sem.run_bind, Sem.run_pure, Result.andThen_ok, invoke]
    have : #[] ++ args.map a.eval = args.map a.eval := by simp
    rw [this]
    exact run_yield hR hsz
  rw [hrun]
  refine ⟨fun hd => by simp [fence, Fence.wide] at hd, ?_⟩
  refine roundIn_of_wpIn trivial ?_
  have hfr0 : RelF γ { tmps := setParams L.tmps L.n L.params.toList vs, n := L.n, defers := [] } { tmps := (R.params.zip (args.map a.eval)).foldl (fun tmps (t, a) => tmps.setIfInBounds t a) R.tmps, defers := [] } := by
    refine ⟨?_, trivial⟩
    have := hLR.tmps.setParams L.params.toList hargs
    rw [← Array.foldl_toList]
    simpa [hLR.params] using this
  rw [hLR.assign, hLR.body]
  refine s γ _ w (some c) _ r1 hfr0 hc ?_
  rintro e a1 w1 ⟨x1, fr1, h1, γ1, ⟨hx1, L1, hg1, hst1, sb⟩, rh1, rf1, er1, hfr1⟩
  cases x1 <;> simp only at hx1
  cases e <;> simp only [ER] at er1
  simp only [Exit.then]
  have hc1 := hfr1.le _ _ hc
  obtain ⟨R1, hR1, hLR1⟩ := rh1.loop hg1 hc1
  obtain ⟨rh1', hfr1'⟩ := rh1.setObj (o := .loop { L1 with state := .busy }) (o' := .loop { R1 with state := .busy }) hg1 rfl hc1
    ⟨rfl, ⟨rfl, hLR1.pending, hLR1.tmps, hLR1.params, hLR1.assign, hLR1.body, hLR1.defers⟩⟩
  refine ⟨_, run_beginRound hR1 (by rw [hLR1.state, hst1]), ?_⟩
  refine sb γ1 a1 _ (some c) _ rh1' rf1 hc1 ?_
  rintro e2 a2 w2 ⟨x2, fr2, h2, γ2, ⟨L2, j, hg2, hj, so⟩, rh2, rf2, er2, hfr2⟩
  have hf12 : Fr γ h w γ2 h2 w2 := (hfr1.trans hfr1').trans hfr2
  have hc2 := hfr2.le _ _ hc1
  obtain ⟨R2, hR2, hLR2⟩ := rh2.loop hg2 hc2
  have hend : ∀ j : Option Code, ∃ w3, (Instr.endRound c j).run P w2 = .ok (.bool j.isNone) w3 ∧ RelH γ2 (h2.set b (.loop (roundEnd L2 j))) w3 ∧ Fr γ2 h2 w2 γ2 (h2.set b (.loop (roundEnd L2 j))) w3 := by
    intro j
    obtain ⟨ra, fa⟩ := rh2.setObj (o := .loop (roundEnd L2 j)) (o' := .loop { R2 with state := if j.isNone then .ready else .done, pending := j }) hg2 rfl hc2
      ⟨rfl, ⟨rfl, rfl, hLR2.tmps, hLR2.params, hLR2.assign, hLR2.body, hLR2.defers⟩⟩
    exact ⟨_, run_endRound j hR2, ra, fa⟩
  obtain ⟨w3, he3, rh3, hfr3⟩ := hend j
  have hgo : wpOpsIn (fence rc) 0 P ops Qc l (a.put o.dst (.bool j.isNone)) w3 :=
    so γ2 _ w3 rc Qc rh3 (((r2.mono hf12.le)).put (.flat rfl) _) (r3.mono hf12.le) fun e a'' w'' p => k e a'' w'' (p.of_fr (hf12.trans hfr3))
  cases x2 <;> cases e2 <;> simp only [ER] at er2 <;> simp only [jumpOf, Option.some.injEq, reduceCtorEq] at hj
  · subst hj; exact ⟨_, w3, he3, hgo⟩
  · subst er2; subst hj; exact ⟨_, w3, he3, hgo⟩
  · subst er2; subst hj; exact ⟨_, w3, he3, hgo⟩
  · subst hj; exact ⟨_, w3, he3, hgo⟩

include ok in
/-- A loop over a function, outermost in its activation. -/
theorem SW.rangeFunc {x : Operand} {ps : Array Tmp} {assign body : Code} {f : FuncId} {fs cs : Array Value} {g : Func}
    (hx : fr.opnd h x = some (.func (.func f) fs cs)) (hf : E.fn.get f = some g) (hb : g.body.isSome = true)
    (s : SC P f (fs.toList ++ [.func (.yield (Nat.succ h.next)) #[] #[]] ++ cs.toList)
      ((h.alloc (.marks true)).alloc (.loop { state := .ready, pending := none, tmps := fr.tmps, n := fr.n, params := ps, assign := assign, body := body, defers := h.next }))
      (fun r h' => (match r with | .ret _ => True | .pan _ => False) ∧ ∃ L, h'.get (Nat.succ h.next) = some (.loop L) ∧ L.state ≠ .busy ∧
        (match L.pending with
          | none => Q .normal { fr with defers := .mark h.next :: fr.defers } (h'.set (Nat.succ h.next) (.loop { L with state := .exhausted }))
          | some c => SW P none c { fr with defers := .mark h.next :: fr.defers } (h'.set (Nat.succ h.next) (.loop { L with state := .exhausted })) Q))) :
    SW P none (.rangeFunc x ps assign body) fr h Q := by
  intro γ a w rc Qc r1 r2 r3 k
  cases rc with
  | some c => exact r3.elim
  | none =>
  refine wpIn_rangeFunc fun fn _ => ?_
  obtain ⟨ra, fa⟩ := r1.alloc (o := .marks true) (o' := .deferred (some [])) ⟨rfl, rfl⟩
  have hm : (γ.put h.next w.heap.size 0) h.next = some (w.heap.size, 0) := Gam.put_same _ _ _ _
  obtain ⟨rb, fb⟩ := ra.alloc (o := .loop { state := .ready, pending := none, tmps := fr.tmps, n := fr.n, params := ps, assign := assign, body := body, defers := h.next })
    (o' := .loop { state := .ready, pending := none, fn := fn, tmps := a.tmps, params := ps, assign := assign, body := body, defers := w.heap.size })
    ⟨rfl, ⟨rfl, rfl, ((r2.tm.mono fa.le).mono (Gam.le_put _ _ ra.fresh)), rfl, rfl, rfl, Gam.le_put _ _ ra.fresh _ _ hm⟩⟩
  have hfab := fa.trans fb
  have hl := Gam.put_same (γ.put h.next w.heap.size 0) (h.alloc (.marks true)).next (w.alloc (.deferred (some []))).heap.size 0
  generalize hγ2 : (γ.put h.next w.heap.size 0).put (h.alloc (.marks true)).next (w.alloc (.deferred (some []))).heap.size 0 = γ2 at rb fb hfab hl
  obtain ⟨fs', cs', hev, h1, h2⟩ := (r2.opnd r1 hx).func_inv (by intro b hb; cases hb)
  refine ⟨_, _, _, { target := .fn (.func f) cs', args := fs' ++ #[.func (.yield (w.heap.size + 1)) #[] #[]] }, ((w.alloc (.deferred (some []))).alloc (.loop { state := .ready, pending := none, fn := fn, tmps := a.tmps, params := ps, assign := assign, body := body, defers := w.heap.size })), f, fs' ++ #[.func (.yield (w.heap.size + 1)) #[] #[]] ++ cs', ((w.alloc (.deferred (some []))).alloc (.loop { state := .ready, pending := none, fn := fn, tmps := a.tmps, params := ps, assign := assign, body := body, defers := w.heap.size })), run_enterLoop_outer (P := P) (w := w) fn a.tmps ps assign body, ?_, fun _ _ => trivial, ?_, fun hd => by simp [fence, Fence.wide] at hd, ?_⟩
  · simp only [resolve, hev, Deferred.ofValue, Sem.run_pure]
    simp [Act.eval]
  · simp only [invoke]
    exact ok.call f g hf hb _ _
  · refine callsIn_fence (CallsIn.mono (s γ2 _ _ rb ?_) ?_)
    · have hy : VR γ2 (.func (.yield (Nat.succ h.next)) #[] #[]) (.func (.yield (w.heap.size + 1)) #[] #[]) := .yield (by simpa [AHeap.alloc] using hl)
      simpa using ((h1.mono hfab.le).append (.cons hy .nil)).append (h2.mono hfab.le)
    · rintro e w3 ⟨r, h3, γ3, ⟨hr, L, hg3, hnb, q⟩, rh3, rr, hfr3⟩
      cases r <;> simp only at hr
      cases e <;> simp only [RR] at rr
      have hl3 : γ3 (Nat.succ h.next) = some (w.heap.size + 1, 0) := hfr3.le _ _ (by simpa [AHeap.alloc] using hl)
      obtain ⟨R3, hR3, hLR3⟩ := rh3.loop hg3 hl3
      obtain ⟨r4, f4⟩ := rh3.setObj (o := .loop { L with state := .exhausted }) (o' := .loop { R3 with state := .exhausted }) hg3 rfl hl3
        ⟨rfl, ⟨rfl, hLR3.pending, hLR3.tmps, hLR3.params, hLR3.assign, hLR3.body, hLR3.defers⟩⟩
      have hf4 : Fr γ h w γ3 (h3.set (Nat.succ h.next) (.loop { L with state := .exhausted })) _ := (hfab.trans hfr3).trans f4
      have hrf : RelF γ3 { fr with defers := .mark h.next :: fr.defers } { a with defers := [{ target := .collected w.heap.size, args := #[] }] ++ a.defers } :=
        ⟨r2.tm.mono hf4.le, ⟨⟨w.heap.size, hfr3.le _ _ (fb.le _ _ hm), rfl⟩, r2.df.mono hf4.le⟩⟩
      refine ⟨R3.pending, _, run_endLoop hR3 (by rw [hLR3.state]; exact hnb), ?_⟩
      have hpe := hLR3.pending
      split
      · rename_i hp
        rw [hp] at hpe
        simp only [← hpe] at q r4 hf4
        exact k _ _ _ ⟨.normal, _, _, γ3, q, r4, hrf, trivial, hf4⟩
      · rename_i c hp
        rw [hp] at hpe
        simp only [← hpe] at q r4 hf4
        exact q γ3 _ _ none Qc r4 hrf trivial fun e a'' w'' p => k e a'' w'' (p.of_fr hf4)
end
end
end Go.Abs

/- The operations that only compute or read, and what they come to. -/
namespace Go.Abs
noncomputable section

section inv
variable {γ : Gam} {v : Value}
theorem VR.ptr_inv {b o : Nat} (h : VR γ (.pointer (some ⟨b, o, none⟩)) v) : ∃ c d, v = .pointer (some ⟨c, o + d, none⟩) ∧ γ b = some (c, d) := by
  generalize hx : Value.pointer (some ⟨b, o, none⟩) = x at h
  cases h with
  | ptr e => cases hx; exact ⟨_, _, rfl, e⟩
  | flat e => subst hx; cases e
  | _ => cases hx
theorem VR.slice_inv {b o n k : Nat} (h : VR γ (.slice (some ⟨b, o, none⟩) n k) v) :
    ∃ a m, v = .slice (some a) n m ∧ capR γ k m ∧ n ≤ m ∧ ((∃ c d, γ b = some (c, d) ∧ a = ⟨c, o + d, none⟩) ∨ (n = 0 ∧ k = 1 ∧ m = 0)) := by
  generalize hx : Value.slice (some ⟨b, o, none⟩) n k = x at h
  cases h with
  | slice e c d => cases hx; exact ⟨_, _, rfl, c, d, .inl ⟨_, _, e, rfl⟩⟩
  | slice0 => cases hx; exact ⟨_, _, rfl, (capR_odd (by decide)).2 (Nat.le_refl 0), Nat.le_refl 0, .inr ⟨rfl, rfl, rfl⟩⟩
  | flat e => subst hx; cases e
  | _ => cases hx
theorem VR.map_inv {b : Nat} (h : VR γ (.map (some b)) v) : ∃ c, v = .map (some c) ∧ γ b = some (c, 0) := by
  generalize hx : Value.map (some b) = x at h
  cases h with
  | map e => cases hx; exact ⟨_, rfl, e⟩
  | flat e => subst hx; cases e
  | _ => cases hx
theorem VR.agg_inv {cs : Array Value} (h : VR γ (.agg cs) v) : ∃ cs', v = .agg cs' ∧ VRs γ cs.toList cs'.toList := by
  generalize hx : Value.agg cs = x at h
  cases h with
  | agg e => cases hx; exact ⟨_, rfl, e⟩
  | flat e => subst hx; cases e
  | _ => cases hx
theorem VR.tuple_inv {cs : Array Value} (h : VR γ (.tuple cs) v) : ∃ cs', v = .tuple cs' ∧ VRs γ cs.toList cs'.toList := by
  generalize hx : Value.tuple cs = x at h
  cases h with
  | tuple e => cases hx; exact ⟨_, rfl, e⟩
  | flat e => subst hx; cases e
  | _ => cases hx
theorem VR.iface_inv {t : TypeId} {u : Value} (h : VR γ (.iface t u) v) : ∃ u', v = .iface t u' ∧ VR γ u u' := by
  generalize hx : Value.iface t u = x at h
  cases h with
  | iface e => cases hx; exact ⟨_, rfl, e⟩
  | flat e => subst hx; cases e
  | _ => cases hx
theorem VR.chan_inv {b : Nat} (h : VR γ (.chan (some b)) v) : ∃ c, v = .chan (some c) ∧ γ b = some (c, 0) := by
  generalize hx : Value.chan (some b) = x at h
  cases h with
  | chan e => cases hx; exact ⟨_, rfl, e⟩
  | flat e => subst hx; cases e
  | _ => cases hx
end inv

/-- An operation that comes to a value and leaves the world as it is. -/
def VOk (P : Program) (o : Oper) (fr : AFr) (h : AHeap) (v : Value) : Prop :=
  ∀ (γ : Gam) (a : Act) (w : World), RelH γ h w → RelF γ fr a → ∃ v', (execOp a.eval o).run P w = .ok (.value v') w ∧ VR γ v v'

theorem VOk.opv {P : Program} {o : Oper} {fr : AFr} {h : AHeap} {v : Value} (s : VOk P o fr h v) : OpV P o fr h v h := fun γ a w r1 r2 =>
  let ⟨v', h1, h2⟩ := s γ a w r1 r2; ⟨v', w, γ, .inl h1, r1, h2, Fr.refl γ h w⟩

/-- The value of what runs without a world. -/
def sv {α : Type} : Sem α → Option α
  | .pure v => some v
  | _ => none
theorem sv_run {α : Type} {s : Sem α} {v : α} (e : sv s = some v) (P : Program) (w : World) : s.run P w = .ok v w := by
  cases s <;> simp [sv] at e
  subst e; rfl

/-- The same, where the program's tables are asked. -/
def pureRun {α : Type} (P : Program) : Sem α → Option α
  | .pure v => some v
  | .program k => pureRun P (k P)
  | .mark _ k => pureRun P k
  | _ => none
theorem pureRun_run {α : Type} {P : Program} : ∀ {s : Sem α} {v : α}, pureRun P s = some v → ∀ w, s.run P w = .ok v w
  | .pure _, v, e, w => by simp only [pureRun, Option.some.injEq] at e; subst e; rfl
  | .program k, v, e, w => by simp only [pureRun] at e; simp only [Sem.run]; exact pureRun_run e w
  | .mark _ k, v, e, w => by simp only [pureRun] at e; simp only [Sem.run]; exact pureRun_run e w
  | .load .., _, e, _ => by cases e
  | .store .., _, e, _ => by cases e
  | .new .., _, e, _ => by cases e
  | .shape .., _, e, _ => by cases e
  | .freeze .., _, e, _ => by cases e
  | .frozen .., _, e, _ => by cases e
  | .getObj .., _, e, _ => by cases e
  | .setObj .., _, e, _ => by cases e
  | .choose .., _, e, _ => by cases e
  | .sys .., _, e, _ => by cases e
  | .halt .., _, e, _ => by cases e

/-- Values without addresses, however deep. -/
def deep : Nat → Value → Bool
  | 0, v => flat v
  | d + 1, .agg cs => cs.toList.all (deep d)
  | d + 1, .tuple cs => cs.toList.all (deep d)
  | d + 1, .iface _ v => deep d v
  | _ + 1, v => flat v

theorem VRs.deep_inv {γ : Gam} {d : Nat} (ih : ∀ {v v' : Value}, VR γ v v' → deep d v = true → v' = v) : ∀ {xs ys : List Value}, VRs γ xs ys → xs.all (deep d) = true → ys = xs
  | _, _, .nil, _ => rfl
  | _, _, .cons a b, h => by
    simp only [List.all_cons, Bool.and_eq_true] at h
    rw [ih a h.1, VRs.deep_inv ih b h.2]

theorem VR.deep_inv {γ : Gam} : ∀ {d : Nat} {v v' : Value}, VR γ v v' → deep d v = true → v' = v
  | 0, _, _, h, e => h.flat_inv e
  | d + 1, v, v', h, e => by
    cases v with
    | agg cs =>
      obtain ⟨cs', rfl, hv⟩ := h.agg_inv
      simp only [deep] at e
      have := VRs.deep_inv (d := d) (fun a b => VR.deep_inv a b) hv e
      rw [Array.toList_inj.1 this]
    | tuple cs =>
      obtain ⟨cs', rfl, hv⟩ := h.tuple_inv
      simp only [deep] at e
      have := VRs.deep_inv (d := d) (fun a b => VR.deep_inv a b) hv e
      rw [Array.toList_inj.1 this]
    | iface t u =>
      obtain ⟨u', rfl, hv⟩ := h.iface_inv
      simp only [deep] at e
      rw [VR.deep_inv hv e]
    | _ => exact h.flat_inv e

/-! ### Strings' bytes -/
theorem toList_loop (bs : ByteArray) : ∀ (n i : Nat) (r : List UInt8), bs.size - i = n → ByteArray.toList.loop bs i r = r.reverse ++ bs.data.toList.drop i := by
  intro n
  induction n with
  | zero =>
    intro i r h
    rw [ByteArray.toList.loop]
    have h2 : ¬ i < bs.size := by omega
    rw [if_neg h2, List.drop_eq_nil_of_le (by simp; have : bs.size = bs.data.size := rfl; omega)]
    simp
  | succ n ih =>
    intro i r h
    rw [ByteArray.toList.loop]
    have h2 : i < bs.size := by omega
    rw [if_pos h2, ih (i + 1) _ (by omega)]
    have h3 : i < bs.data.toList.length := by simpa using h2
    rw [List.drop_eq_getElem_cons h3]
    simp [ByteArray.get!, h2]
theorem toList_data (bs : ByteArray) : bs.toList = bs.data.toList := by
  unfold ByteArray.toList
  rw [toList_loop bs (bs.size - 0) 0 [] rfl]; simp

end
end Go.Abs

/- Operations on scalars, addresses, aggregates: their values. -/
namespace Go.Abs
noncomputable section

section
variable {P : Program} {E : Env} {o : Oper} {fr : AFr} {h : AHeap}

/-- What an operation's body runs as, where it comes to a value. -/
theorem VOk.mk {v : Value} (s : (Operand → Value) → Sem Value) (hop : ∀ ρ, execOp ρ o = (do pure (.value (← s ρ)) : Sem Next))
    (hs : ∀ (γ : Gam) (a : Act) (w : World), RelH γ h w → RelF γ fr a → ∃ v', (s a.eval).run P w = .ok v' w ∧ VR γ v v') : VOk P o fr h v := by
  intro γ a w r1 r2
  obtain ⟨v', h1, h2⟩ := hs γ a w r1 r2
  exact ⟨v', by rw [hop, Sem.run_bind, h1]; rfl, h2⟩

theorem v_move {x : Operand} {v : Value} (hop : o.op = .move x ∨ o.op = .assign x) (e : fr.opnd h x = some v) : VOk P o fr h v := by
  intro γ a w r1 r2
  refine ⟨a.eval x, ?_, r2.opnd r1 e⟩
  rcases hop with hop | hop <;> simp [execOp, hop]

theorem v_pick {c x y : Operand} {b : Bool} {v : Value} (hop : o.op = .pick c x y) (hc : fr.opnd h c = some (.bool b)) (e : fr.opnd h (if b then x else y) = some v) : VOk P o fr h v := by
  intro γ a w r1 r2
  have hb := (r2.opnd r1 hc).flat_inv rfl
  refine ⟨a.eval (if b then x else y), ?_, r2.opnd r1 e⟩
  simp only [execOp, hop, hb, asBool, Sem.run_bind, Sem.run_pure, Result.andThen_ok]
  cases b <;> rfl

def isBoolish (v : Value) : Bool := match v with
  | .bool _ => true
  | .complex .f32 1 0 => true
  | _ => false
theorem boolish_inv {γ : Gam} {v v' : Value} (h : VR γ v v') (e : isBoolish v = true) : ∃ b, v' = .bool b := by
  unfold isBoolish at e
  split at e
  · exact ⟨_, h.flat_inv rfl⟩
  · exact h.bool_inv
  · cases e

theorem v_pick_any {c x y : Operand} {vx vy : Value} (hop : o.op = .pick c x y) (hc : fr.opnd h c = some topBool) (ex : fr.opnd h x = some vx) (ey : fr.opnd h y = some vy) (hx : isBoolish vx = true) (hy : isBoolish vy = true) :
    VOk P o fr h topBool := by
  intro γ a w r1 r2
  obtain ⟨b, hb⟩ := (r2.opnd r1 hc).bool_inv
  obtain ⟨bx, hbx⟩ := boolish_inv (r2.opnd r1 ex) hx
  obtain ⟨byy, hby⟩ := boolish_inv (r2.opnd r1 ey) hy
  refine ⟨.bool (if b then bx else byy), ?_, .anyBool⟩
  simp only [execOp, hop, hb, hbx, hby, asBool, Sem.run_bind, Sem.run_pure, Result.andThen_ok]
  cases b <;> rfl

theorem v_load (ok : EnvOk P E) {t : TypeId} {x : Operand} {b i : Nat} {v : Value} (hop : o.op = .load t x) (hx : fr.opnd h x = some (.pointer (some ⟨b, i, none⟩))) (e : E.loadVar h t b i = some v) : VOk P o fr h v := by
  refine VOk.mk (fun ρ => Instr.loadAt t (ρ x)) (fun ρ => by simp only [execOp, hop]) fun γ a w r1 r2 => ?_
  obtain ⟨c, d, he, hγ⟩ := (r2.opnd r1 hx).ptr_inv
  obtain ⟨v', h1, h2⟩ := run_loadVar ok r1 e hγ
  refine ⟨v', ?_, h2⟩
  simp only [Instr.loadAt, he, Instr.sureAddr, Sem.run_bind, Sem.run_pure, Result.andThen_ok]
  exact h1

theorem v_nilCheck {x : Operand} {b i : Nat} (hop : o.op = .nilCheck x) (hx : fr.opnd h x = some (.pointer (some ⟨b, i, none⟩))) : VOk P o fr h (.pointer (some ⟨b, i, none⟩)) := by
  intro γ a w r1 r2
  have hv := r2.opnd r1 hx
  obtain ⟨c, d, he, hγ⟩ := hv.ptr_inv
  refine ⟨a.eval x, ?_, hv⟩
  simp only [execOp, hop, he]
  rfl

theorem v_nilCheck_func {x : Operand} {f : FuncId} {fs cs : Array Value} (hop : o.op = .nilCheck x) (hx : fr.opnd h x = some (.func (.func f) fs cs)) : VOk P o fr h (.func (.func f) fs cs) := by
  intro γ a w r1 r2
  have hv := r2.opnd r1 hx
  obtain ⟨fs', cs', he, _, _⟩ := hv.func_inv (by intro b hb; cases hb)
  refine ⟨a.eval x, ?_, hv⟩
  simp only [execOp, hop, he]
  rfl

theorem v_extract {x : Operand} {i : Nat} {vs : Array Value} {v : Value} (hop : o.op = .extract x i) (hx : fr.opnd h x = some (.tuple vs)) (e : vs.toList[i]? = some v) : VOk P o fr h v := by
  refine VOk.mk (fun ρ => Instr.extract (ρ x) i) (fun ρ => by simp only [execOp, hop]) fun γ a w r1 r2 => ?_
  obtain ⟨cs', he, hv⟩ := (r2.opnd r1 hx).tuple_inv
  obtain ⟨y, hy, hr⟩ := hv.get _ _ e
  refine ⟨y, ?_, hr⟩
  have hy' : cs'[i]? = some y := by simpa using hy
  simp only [he, Instr.extract, hy', Sem.run_pure]

theorem v_makeInterface (ok : EnvOk P E) {t : TypeId} {x : Operand} {d : TypeDesc} {v : Value} (hop : o.op = .makeInterface t x) (hd : E.und t = some d) (hn : (match d with | .interface _ => false | _ => true) = true) (hx : fr.opnd h x = some v) :
    VOk P o fr h (.iface t v) := by
  refine VOk.mk (fun ρ => Instr.makeInterface t (ρ x)) (fun ρ => by simp only [execOp, hop]) fun γ a w r1 r2 => ?_
  refine ⟨.iface t (a.eval x), ?_, .iface (r2.opnd r1 hx)⟩
  simp only [Instr.makeInterface, Sem.run_bind, run_und ok hd, Result.andThen_ok]
  cases d <;> first | rfl | cases hn

theorem v_makeFunc {f : FuncId} {fs cs : Array Operand} {vf vc : List Value} (hop : o.op = .makeFunc (.func f) fs cs) (hf : fr.opnds h fs.toList = some vf) (hc : fr.opnds h cs.toList = some vc) :
    VOk P o fr h (.func (.func f) vf.toArray vc.toArray) := by
  refine VOk.mk (fun ρ => Instr.makeFunc (.func f) (fs.map ρ) (cs.map ρ)) (fun ρ => by simp only [execOp, hop]) fun γ a w r1 r2 => ?_
  refine ⟨.func (.func f) (fs.map a.eval) (cs.map a.eval), rfl, .func (fun l hl => by cases hl) ?_ ?_⟩
  · simpa using r2.opnds r1 hf
  · simpa using r2.opnds r1 hc

/-! #### Comparisons and arithmetic -/
def isC : Operand → Bool
  | .const _ => true
  | _ => false
def guardFree (x y : Operand) (a b : Value) : Bool :=
  match a, b with
  | .nilIface, .nilIface => isC x || isC y
  | .agg _, .agg _ => false
  | _, _ => true

theorem run_eqGuard {op : BinOp} {t : TypeId} {x y : Operand} {a b : Value} (hn : guardFree x y a b = true) (w : World) :
    (eqGuard op t x y a b).run P w = .ok () w := by
  have key : ∀ op', op' = .eql ∨ op' = .neq → (eqGuard op' t x y a b).run P w = .ok () w := by
    intro op' ho
    rcases ho with rfl | rfl <;>
    · unfold guardFree at hn
      split at hn
      · cases x <;> cases y <;> first | rfl | (simp [isC] at hn)
      · cases hn
      · rename_i h1 h2
        cases a <;> cases b <;> first | rfl | exact (h1 rfl rfl).elim | exact (h2 _ _ rfl rfl).elim
  cases op <;> first | exact key _ (.inl rfl) | exact key _ (.inr rfl) | rfl

/-- Two numbers, or two strings, under any operator that can't fail here. -/
theorem v_bin_flat {op : BinOp} {t t' : TypeId} {x y : Operand} {a b v : Value} (hop : o.op = .binOp op t x y t') (hx : fr.opnd h x = some a) (hy : fr.opnd h y = some b)
    (hf : (match a, b with | .int _ _, .int _ _ => true | .string _, .string _ => true | _, _ => false) = true) (e : sv (binOp op t a b) = some v) (hv : flat v = true) : VOk P o fr h v := by
  refine VOk.mk (fun ρ => do eqGuard op t x y (ρ x) (ρ y); binOp op t (ρ x) (ρ y)) (fun ρ => by simp only [execOp, hop]) fun γ ac w r1 r2 => ?_
  refine ⟨v, ?_, .flat hv⟩
  have ea : ac.eval x = a := (r2.opnd r1 hx).flat_inv (by cases a <;> cases b <;> first | rfl | cases hf)
  have eb : ac.eval y = b := (r2.opnd r1 hy).flat_inv (by cases a <;> cases b <;> first | rfl | cases hf)
  rw [ea, eb, Sem.run_bind, run_eqGuard (by cases a <;> cases b <;> first | rfl | cases hf), Result.andThen_ok]
  exact sv_run e P w

def eqShape : Value → Bool
  | .int _ _ | .float _ _ | .complex _ _ _ | .string _ => false
  | _ => true

theorem run_eq1 {t : TypeId} {a b : Value} {r : Bool} (hr : ∀ w, (Op.equal t a b).run P w = .ok r w) (ha : eqShape a = true) (hb : eqShape b = true) (w : World) :
    (binOp .eql t a b).run P w = .ok (.bool r) w ∧ (binOp .neq t a b).run P w = .ok (.bool !r) w := by
  have h1 : binOp .eql t a b = (do pure (.bool (← Op.equal t a b)) : Sem Value) := by
    cases a <;> cases b <;> first | rfl | (simp [eqShape] at ha; done) | (simp [eqShape] at hb; done)
  have h2 : binOp .neq t a b = (do pure (.bool (!(← Op.equal t a b))) : Sem Value) := by
    cases a <;> cases b <;> first | rfl | (simp [eqShape] at ha; done) | (simp [eqShape] at hb; done)
  constructor
  · rw [h1, Sem.run_bind, hr]; rfl
  · rw [h2, Sem.run_bind, hr]; rfl

/-- Whether one of two values is nil, and what equality says then (by the type's kind). -/
def nilEq (d : TypeDesc) (a b : Value) : Option Bool :=
  match d, a, b with
  | .bool, .bool x, .bool y => some (x == y)
  | .pointer _, .pointer none, .pointer q => some q.isNone
  | .pointer _, .pointer (some _), .pointer none => some false
  | .slice _, .slice none _ _, .slice q _ _ => some q.isNone
  | .slice _, .slice (some _) _ _, .slice none _ _ => some false
  | .map _ _, .map none, .map q => some q.isNone
  | .map _ _, .map (some _), .map none => some false
  | .func _ _ _, .nilFunc, .nilFunc => some true
  | .func _ _ _, .nilFunc, .func _ _ _ => some false
  | .func _ _ _, .func _ _ _, .nilFunc => some false
  | .interface _, .nilIface, .nilIface => some true
  | .interface _, .nilIface, .iface _ _ => some false
  | .interface _, .iface _ _, .nilIface => some false
  | _, _, _ => none

/-- The shape that nilEq looks at lasts. -/
theorem nilEq_rel {γ : Gam} {d : TypeDesc} {a b a' b' : Value} {r : Bool} (e : nilEq d a b = some r) (ha : VR γ a a') (hb : VR γ b b') : nilEq d a' b' = some r := by
  unfold nilEq at e
  split at e
  case h_1 => rw [ha.flat_inv rfl, hb.flat_inv rfl]; exact e
  case h_2 q => rw [ha.flat_inv rfl]; cases hb <;> exact e
  case h_3 => rw [hb.flat_inv rfl]; cases ha <;> first | exact e | (rename_i hf; cases hf)
  case h_4 n k q n' k' =>
    cases ha with
    | flat _ => cases hb <;> exact e
  case h_5 n k q n' k' =>
    cases hb with
    | flat _ => cases ha <;> first | exact e | (rename_i hf; cases hf)
  case h_6 => rw [ha.flat_inv rfl]; cases hb <;> exact e
  case h_7 => rw [hb.flat_inv rfl]; cases ha <;> first | exact e | (rename_i hf; cases hf)
  case h_8 => rw [ha.flat_inv rfl, hb.flat_inv rfl]; exact e
  case h_9 => rw [ha.flat_inv rfl]; cases hb <;> first | exact e | (rename_i hf; cases hf)
  case h_10 => rw [hb.flat_inv rfl]; cases ha <;> first | exact e | (rename_i hf; cases hf)
  case h_11 => rw [ha.flat_inv rfl, hb.flat_inv rfl]; exact e
  case h_12 => rw [ha.flat_inv rfl]; cases hb <;> first | exact e | (rename_i hf; cases hf)
  case h_13 => rw [hb.flat_inv rfl]; cases ha <;> first | exact e | (rename_i hf; cases hf)
  case h_14 => cases e

theorem nilEq_run {t : TypeId} {d : TypeDesc} {a b : Value} {r : Bool} (hd : P.underlying t = some d) (e : nilEq d a b = some r) (w : World) : (Op.equal t a b).run P w = .ok r w := by
  have hu : (underlying t).run P w = .ok d w := by simp [underlying, hd]
  show (Op.equalIn (9999 + 1) t a b).run P w = .ok r w
  unfold Op.equalIn
  simp only [Sem.run_bind, hu, Result.andThen_ok]
  unfold nilEq at e
  split at e <;> first | (simp only [Option.some.injEq] at e; subst e; rfl) | cases e

theorem v_bin_nil (ok : EnvOk P E) {op : BinOp} {t t' : TypeId} {x y : Operand} {a b : Value} {d : TypeDesc} {r : Bool} (hop : o.op = .binOp op t x y t') (hq : op = .eql ∨ op = .neq) (hx : fr.opnd h x = some a) (hy : fr.opnd h y = some b)
    (hd : E.und t = some d) (e : nilEq d a b = some r)
    (hg : guardFree x y a b = true) : VOk P o fr h (.bool (if op = .eql then r else !r)) := by
  refine VOk.mk (fun ρ => do eqGuard op t x y (ρ x) (ρ y); binOp op t (ρ x) (ρ y)) (fun ρ => by simp only [execOp, hop]) fun γ ac w r1 r2 => ?_
  refine ⟨_, ?_, .flat rfl⟩
  have ha := r2.opnd r1 hx
  have hb := r2.opnd r1 hy
  have e' := nilEq_rel e ha hb
  have hg' : guardFree x y (ac.eval x) (ac.eval y) = true := by
    revert ha hb e'
    generalize ac.eval x = va
    generalize ac.eval y = vb
    intro ha hb e'
    unfold nilEq at e
    split at e <;> first
      | (cases e; done)
      | (rw [ha.flat_inv rfl, hb.flat_inv rfl]; exact hg)
      | (unfold nilEq at e'; split at e' <;> first | rfl | (cases e'; done) | (cases ha; cases hb; done) | (cases ha; done) | (cases hb; done))
  rw [Sem.run_bind, run_eqGuard hg', Result.andThen_ok]
  have hr : ∀ w, (Op.equal t (ac.eval x) (ac.eval y)).run P w = .ok r w := fun w => nilEq_run (ok.und hd) e' w
  have hsh : eqShape (ac.eval x) = true ∧ eqShape (ac.eval y) = true := by
    revert e'
    generalize ac.eval x = va
    generalize ac.eval y = vb
    intro e'
    unfold nilEq at e'
    split at e' <;> first | exact ⟨rfl, rfl⟩ | cases e'
  rcases hq with rfl | rfl
  · simpa using (run_eq1 hr hsh.1 hsh.2 w).1
  · simpa using (run_eq1 hr hsh.1 hsh.2 w).2
end
end
end Go.Abs

/- Places and parts: fields, elements, slices, lengths, conversions, aggregates. -/
namespace Go.Abs
noncomputable section

/-- A part of an aggregate. -/
def Env.part (E : Env) (t : TypeId) (cs : List Value) (off : Nat) : Option Value :=
  match E.ti.get t with
  | some i => match E.und t with
    | some d => bif aggD d then some (.agg ⟨(cs.drop off).take i.size⟩) else cs[off]?
    | none => none
  | none => none

theorem take_drop_swap (l : List Value) (a n : Nat) : (l.take (a + n)).drop a = (l.drop a).take n := by
  rw [List.drop_take]; congr 1; omega

section
variable {P : Program} {E : Env} (ok : EnvOk P E) {o : Oper} {fr : AFr} {h : AHeap}
include ok

theorem run_part {γ : Gam} {t : TypeId} {cs : List Value} {cs' : Array Value} {off : Nat} {v : Value} (hv : VRs γ cs cs'.toList) (e : E.part t cs off = some v) (w : World) :
    ∃ v', (part t cs' off).run P w = .ok v' w ∧ VR γ v v' := by
  unfold Env.part at e
  split at e
  · rename_i i hi
    split at e
    · rename_i d hd
      unfold Go.part
      simp only [Sem.run_bind, run_isAgg ok hd, Result.andThen_ok]
      cases ha : aggD d with
      | true =>
        rw [ha] at e
        simp only [cond_true, Option.some.injEq] at e; subst e
        simp only [if_true, Sem.run_bind, run_size ok hi, Result.andThen_ok, Sem.run_pure]
        refine ⟨_, rfl, .agg ?_⟩
        rw [Array.toList_extract]
        simp only [List.extract_eq_take_drop]
        rw [show off + i.size - off = i.size from by omega]
        exact (hv.drop off).take i.size
      | false =>
        rw [ha] at e
        simp only [cond_false] at e
        obtain ⟨y, hy, hr⟩ := hv.get _ _ e
        have hy' : cs'[off]? = some y := by simpa using hy
        simp only [Bool.false_eq_true, if_false, hy', Sem.run_pure]
        exact ⟨y, rfl, hr⟩
    · cases e
  · cases e

theorem v_field {t : TypeId} {x : Operand} {f : Nat} {fs : Array Field} {fd : Field} {cs : Array Value} {v : Value} (hop : o.op = .field t x f) (hd : E.und t = some (.struct fs)) (hf : fs.toList[f]? = some fd)
    (hx : fr.opnd h x = some (.agg cs)) (e : E.part fd.type cs.toList fd.offset = some v) : VOk P o fr h v := by
  refine VOk.mk (fun ρ => Instr.field t (ρ x) f) (fun ρ => by simp only [execOp, hop]) fun γ a w r1 r2 => ?_
  obtain ⟨cs', he, hv⟩ := (r2.opnd r1 hx).agg_inv
  obtain ⟨v', h1, h2⟩ := run_part ok hv e w
  refine ⟨v', ?_, h2⟩
  have hf' : fs[f]? = some fd := by simpa using hf
  simp only [Instr.field, Sem.run_bind, run_und ok hd, Result.andThen_ok, hf', he, asAgg, Sem.run_pure]
  exact h1

theorem v_fieldAddr {t : TypeId} {x : Operand} {f : Nat} {fs : Array Field} {fd : Field} {i : TypeInfo} {b p : Nat} (hop : o.op = .fieldAddr t x f) (hd : E.und t = some (.struct fs)) (hf : fs.toList[f]? = some fd)
    (hi : E.ti.get fd.type = some i) (hz : Nat.beq i.size 0 = false) (hx : fr.opnd h x = some (.pointer (some ⟨b, p, none⟩))) : VOk P o fr h (.pointer (some ⟨b, p + fd.offset, none⟩)) := by
  refine VOk.mk (fun ρ => Instr.fieldAt t (ρ x) f) (fun ρ => by simp only [execOp, hop]) fun γ a w r1 r2 => ?_
  obtain ⟨c, d, he, hγ⟩ := (r2.opnd r1 hx).ptr_inv
  have hf' : fs[f]? = some fd := by simpa using hf
  have hz' : ¬ i.size = 0 := fun h0 => by rw [h0] at hz; cases hz
  refine ⟨.pointer (some ⟨c, p + fd.offset + d, none⟩), ?_, .ptr hγ⟩
  simp only [Instr.fieldAt, Sem.run_bind, run_und ok hd, Result.andThen_ok, hf', he, Instr.sureAddr, Sem.run_pure, fieldPlace, run_size ok hi, if_neg hz', addr_add]
  rw [show p + d + fd.offset = p + fd.offset + d from by omega]

theorem v_indexAddr_arr {t el : TypeId} {x ix : Operand} {n b p : Nat} {k : IntKind} {j : Nat} {i : TypeInfo} (hop : o.op = .indexAddr t x ix) (hd : E.und t = some (.array n el)) (hi : E.ti.get el = some i)
    (hx : fr.opnd h x = some (.pointer (some ⟨b, p, none⟩))) (hix : fr.opnd h ix = some (.int k (.ofNat j))) (hlt : Nat.blt j n = true) : VOk P o fr h (.pointer (some ⟨b, p + j * i.size, none⟩)) := by
  refine VOk.mk (fun ρ => Instr.indexAt t (ρ x) (ρ ix)) (fun ρ => by simp only [execOp, hop]) fun γ a w r1 r2 => ?_
  obtain ⟨c, d, he, hγ⟩ := (r2.opnd r1 hx).ptr_inv
  have hj := (r2.opnd r1 hix).flat_inv rfl
  have hjn : j < n := Nat.le_of_ble_eq_true hlt
  refine ⟨.pointer (some ⟨c, p + j * i.size + d, none⟩), ?_, .ptr hγ⟩
  simp only [Instr.indexAt, hj, asIntOf, Sem.run_bind, Sem.run_pure, Result.andThen_ok, run_und ok hd, he, Instr.sureAddr]
  rw [if_pos ⟨Int.natCast_nonneg j, by simpa using hjn⟩]
  simp only [Sem.run_bind, run_size ok hi, Result.andThen_ok, Sem.run_pure, addr_add]
  simp only [Int.ofNat_eq_natCast, Int.toNat_natCast]
  rw [show p + d + j * i.size = p + j * i.size + d from by omega]

theorem v_indexAddr_slice {t el : TypeId} {x ix : Operand} {n kc b p : Nat} {k : IntKind} {j : Nat} {i : TypeInfo} (hop : o.op = .indexAddr t x ix) (hd : E.und t = some (.slice el)) (hi : E.ti.get el = some i)
    (hx : fr.opnd h x = some (.slice (some ⟨b, p, none⟩) n kc)) (hix : fr.opnd h ix = some (.int k (.ofNat j))) (hlt : Nat.blt j n = true) : VOk P o fr h (.pointer (some ⟨b, p + j * i.size, none⟩)) := by
  refine VOk.mk (fun ρ => Instr.indexAt t (ρ x) (ρ ix)) (fun ρ => by simp only [execOp, hop]) fun γ a w r1 r2 => ?_
  have hjn : j < n := Nat.le_of_ble_eq_true hlt
  obtain ⟨ad, m, he, _, _, hor⟩ := (r2.opnd r1 hx).slice_inv
  rcases hor with ⟨c, d, hγ, rfl⟩ | ⟨h0, _, _⟩
  · have hj := (r2.opnd r1 hix).flat_inv rfl
    refine ⟨.pointer (some ⟨c, p + j * i.size + d, none⟩), ?_, .ptr hγ⟩
    simp only [Instr.indexAt, hj, asIntOf, Sem.run_bind, Sem.run_pure, Result.andThen_ok, run_und ok hd, he]
    rw [if_pos ⟨Int.natCast_nonneg j, by simpa using hjn⟩]
    simp only [Sem.run_bind, run_size ok hi, Result.andThen_ok, Sem.run_pure, addr_add]
    simp only [Int.ofNat_eq_natCast, Int.toNat_natCast]
    rw [show p + d + j * i.size = p + j * i.size + d from by omega]
  · omega

theorem v_index_arr {t el : TypeId} {x ix : Operand} {n : Nat} {cs : Array Value} {k : IntKind} {j : Nat} {i : TypeInfo} {v : Value} (hop : o.op = .index t x ix) (hd : E.und t = some (.array n el)) (hi : E.ti.get el = some i)
    (hx : fr.opnd h x = some (.agg cs)) (hix : fr.opnd h ix = some (.int k (.ofNat j))) (hlt : Nat.blt j n = true) (e : E.part el cs.toList (j * i.size) = some v) : VOk P o fr h v := by
  refine VOk.mk (fun ρ => Instr.index t (ρ x) (ρ ix)) (fun ρ => by simp only [execOp, hop]) fun γ a w r1 r2 => ?_
  obtain ⟨cs', he, hv⟩ := (r2.opnd r1 hx).agg_inv
  have hj := (r2.opnd r1 hix).flat_inv rfl
  have hjn : j < n := Nat.le_of_ble_eq_true hlt
  obtain ⟨v', h1, h2⟩ := run_part ok hv e w
  refine ⟨v', ?_, h2⟩
  simp only [Instr.index, hj, asIntOf, Sem.run_bind, Sem.run_pure, Result.andThen_ok, run_und ok hd, he]
  rw [if_pos ⟨Int.natCast_nonneg j, by simpa using hjn⟩]
  simp only [Sem.run_bind, run_size ok hi, Result.andThen_ok]
  simpa using h1

theorem v_index_str {t : TypeId} {x ix : Operand} {s : ByteArray} {k : IntKind} {j : Nat} {c : UInt8} (hop : o.op = .index t x ix) (hd : E.und t = some .string)
    (hx : fr.opnd h x = some (.string s)) (hix : fr.opnd h ix = some (.int k (.ofNat j))) (e : s.data.toList[j]? = some c) : VOk P o fr h (.int .u8 (.ofNat c.toNat)) := by
  refine VOk.mk (fun ρ => Instr.index t (ρ x) (ρ ix)) (fun ρ => by simp only [execOp, hop]) fun γ a w r1 r2 => ?_
  have hs := (r2.opnd r1 hx).flat_inv rfl
  have hj := (r2.opnd r1 hix).flat_inv rfl
  refine ⟨_, ?_, .flat rfl⟩
  have hlt : j < s.size := by
    rcases Nat.lt_or_ge j s.size with h | h
    · exact h
    · have : s.data.toList.length ≤ j := by simpa using h
      rw [List.getElem?_eq_none this] at e; cases e
  have hc : s[j] = c := by
    have : s.data.toList[j]? = some (s[j]) := by
      rw [List.getElem?_eq_getElem (by simpa using hlt)]; rfl
    rw [this, Option.some.injEq] at e; exact e
  simp only [Instr.index, hj, hs, asIntOf, Sem.run_bind, Sem.run_pure, Result.andThen_ok, run_und ok hd]
  simp only [Int.ofNat_eq_natCast, Int.natCast_nonneg, if_true, Int.toNat_natCast, getElem?_pos s j hlt, hc]
  rfl

end

theorem VRs.deep_refl {γ : Gam} {d : Nat} (ih : ∀ {v : Value}, deep d v = true → VR γ v v) : ∀ {xs : List Value}, xs.all (deep d) = true → VRs γ xs xs
  | [], _ => .nil
  | _ :: _, h => by
    simp only [List.all_cons, Bool.and_eq_true] at h
    exact .cons (ih h.1) (VRs.deep_refl ih h.2)
theorem VR.deep_refl {γ : Gam} : ∀ {d : Nat} {v : Value}, deep d v = true → VR γ v v
  | 0, _, e => .flat e
  | d + 1, v, e => by
    cases v with
    | agg cs => simp only [deep] at e; exact .agg (VRs.deep_refl (fun a => VR.deep_refl a) e)
    | tuple cs => simp only [deep] at e; exact .tuple (VRs.deep_refl (fun a => VR.deep_refl a) e)
    | iface t u => simp only [deep] at e; exact .iface (VR.deep_refl e)
    | _ => exact .flat e

/-! ### Slices -/
def bnd (fr : AFr) (h : AHeap) (x : Option Operand) (dflt : Nat) : Option Nat :=
  match x with
  | none => some dflt
  | some x => match fr.opnd h x with
    | some (.int _ (.ofNat n)) => some n
    | _ => none

section
variable {P : Program} {E : Env} {o : Oper} {fr : AFr} {h : AHeap}

theorem run_sliceBound {γ : Gam} {a : Act} {w : World} (r1 : RelH γ h w) (r2 : RelF γ fr a) {x : Operand} {n : Nat} (e : bnd fr h (some x) 0 = some n) {y : Nat} (hy : n ≤ y) (code : BoundsCode) :
    (Instr.sliceBound (a.eval x) y code).run P w = .ok n w := by
  simp only [bnd] at e
  split at e
  · rename_i k m hx
    simp only [Option.some.injEq] at e; subst e
    have := (r2.opnd r1 hx).flat_inv rfl
    simp only [Instr.sliceBound, this, asIntOf, Sem.run_bind, Sem.run_pure, Result.andThen_ok]
    rw [if_pos ⟨Int.natCast_nonneg m, by simpa using hy⟩]
    simp
  · cases e

theorem bnd_some {x : Operand} {d n : Nat} (e : bnd fr h (some x) d = some n) : bnd fr h (some x) 0 = some n := e

/-- Bounds of a slice expression: without a third, the second within what is surely there. -/
theorem run_sliceBounds {γ : Gam} {a : Act} {w : World} (r1 : RelH γ h w) (r2 : RelF γ fr a) {lo hi mx : Option Operand} {isS : Bool} {len cap l hh m : Nat}
    (hlo : bnd fr h lo 0 = some l) (hhi : bnd fr h hi len = some hh) (hmx : bnd fr h mx cap = some m) (hm : m ≤ cap) (hhm : hh ≤ m) (hl : l ≤ hh) (hmh : mx.isSome = true → hi.isSome = true) :
    (Instr.sliceBounds isS len cap (lo.map a.eval) (hi.map a.eval) (mx.map a.eval)).run P w = .ok (l, hh, m) w := by
  have hL : ∀ x, lo = some x → ∀ code, (Instr.sliceBound (a.eval x) hh code).run P w = .ok l w := fun x hx code => run_sliceBound r1 r2 (by rw [← hx]; cases lo <;> first | (cases hx; done) | exact hlo) hl code
  have hH : ∀ x, hi = some x → ∀ code, (Instr.sliceBound (a.eval x) m code).run P w = .ok hh w := fun x hx code => run_sliceBound r1 r2 (by rw [← hx]; cases hi <;> first | (cases hx; done) | exact hhi) hhm code
  have hM : ∀ x, mx = some x → ∀ code, (Instr.sliceBound (a.eval x) cap code).run P w = .ok m w := fun x hx code => run_sliceBound r1 r2 (by rw [← hx]; cases mx <;> first | (cases hx; done) | exact hmx) hm code
  have hl0 : lo = none → l = 0 := fun e => by subst e; simpa [bnd] using hlo.symm
  have hh0 : hi = none → hh = len := fun e => by subst e; simpa [bnd] using hhi.symm
  have hm0 : mx = none → m = cap := fun e => by subst e; simpa [bnd] using hmx.symm
  clear hlo hhi hmx
  unfold Instr.sliceBounds
  cases mx with
  | none =>
    have := hm0 rfl; subst this
    cases hi with
    | none =>
      have := hh0 rfl; subst this
      cases lo with
      | none => have := hl0 rfl; subst this; simp
      | some lo => simp [hL lo rfl]
    | some hi =>
      cases lo with
      | none => have := hl0 rfl; subst this; simp [hH hi rfl]
      | some lo => simp [hH hi rfl, hL lo rfl]
  | some mx =>
    cases hi with
    | none => simp at hmh
    | some hi =>
      cases lo with
      | none => have := hl0 rfl; subst this; simp [hM mx rfl, hH hi rfl]
      | some lo => simp [hM mx rfl, hH hi rfl, hL lo rfl]

include E in
theorem v_slice_str (ok : EnvOk P E) {t : TypeId} {x : Operand} {lo hi : Option Operand} {s : ByteArray} {l hh : Nat} (hop : o.op = .slice t x lo hi none) (hd : E.und t = some .string) (hx : fr.opnd h x = some (.string s))
    (hlo : bnd fr h lo 0 = some l) (hhi : bnd fr h hi s.data.toList.length = some hh) (hh1 : Nat.ble hh s.data.toList.length = true) (hh2 : Nat.ble l hh = true) : VOk P o fr h (.string ⟨⟨(s.data.toList.drop l).take (hh - l)⟩⟩) := by
  refine VOk.mk (fun ρ => Instr.sliceAt t (ρ x) (lo.map ρ) (hi.map ρ) none) (fun ρ => by simp only [execOp, hop, Option.map_none]) fun γ a w r1 r2 => ?_
  have hs := (r2.opnd r1 hx).flat_inv rfl
  have hsz : s.data.toList.length = s.size := by simp
  rw [hsz] at hhi hh1
  refine ⟨_, ?_, .flat rfl⟩
  have hb := run_sliceBounds (P := P) (mx := none) (isS := false) r1 r2 hlo hhi rfl (Nat.le_refl _) (Nat.le_of_ble_eq_true hh1) (Nat.le_of_ble_eq_true hh2) (by simp)
  simp only [Option.map_none] at hb
  simp only [Instr.sliceAt, Instr.slice, Sem.run_bind, run_und ok hd, Result.andThen_ok, hs, Option.isSome_none, Bool.false_eq_true, if_false, hb, Sem.run_pure]
  congr 2
  apply ByteArray.ext
  apply Array.toList_inj.1
  simp [ByteArray.data_extract, List.extract_eq_take_drop]

/-- A slice of a slice; its capacity: what is left of what was known. -/
def subCap (k l : Nat) (m : Option Nat) : Nat :=
  match m with
  | some m => 2 * (m - l)
  | none => bif Nat.beq l 0 then k else bif Nat.beq (Nat.mod k 2) 0 then Nat.mul 2 (Nat.sub (capLo k) l) else Nat.succ (Nat.mul 2 (Nat.sub (capLo k) l))

theorem v_slice_slice (ok : EnvOk P E) {t el : TypeId} {x : Operand} {lo hi mx : Option Operand} {b p n k l hh : Nat} {i : TypeInfo} (hop : o.op = .slice t x lo hi mx) (hd : E.und t = some (.slice el)) (hi' : E.ti.get el = some i)
    (hx : fr.opnd h x = some (.slice (some ⟨b, p, none⟩) n k)) (hlo : bnd fr h lo 0 = some l) (hhi : bnd fr h hi n = some hh) (h1 : Nat.ble hh (capLo k) = true) (h2 : Nat.ble l hh = true)
    {m : Option Nat} (hmx : (match mx with | none => m = none | some y => ∃ m', m = some m' ∧ bnd fr h (some y) 0 = some m' ∧ m' ≤ capLo k ∧ hh ≤ m' ∧ l < m' ∧ hi.isSome = true))
    (hne : mx.isSome = true ∨ l < capLo k ∨ l = 0 ∨ (hh = l ∧ k % 2 = 1 ∧ capLo k = l)) : VOk P o fr h (.slice (some ⟨b, p + l * i.size, none⟩) (hh - l) (subCap k l m)) := by
  refine VOk.mk (fun ρ => Instr.sliceAt t (ρ x) (lo.map ρ) (hi.map ρ) (mx.map ρ)) (fun ρ => by simp only [execOp, hop]) fun γ a w r1 r2 => ?_
  obtain ⟨ad, mc, he, hcap, hnm, hor⟩ := (r2.opnd r1 hx).slice_inv
  have h1 := Nat.le_of_ble_eq_true h1
  have h2 := Nat.le_of_ble_eq_true h2
  have hkm := capR_le hcap
  obtain ⟨M, hM, hb⟩ : ∃ M, (match m with | some m' => M = m' | none => M = mc) ∧ (Instr.sliceBounds true n mc (lo.map a.eval) (hi.map a.eval) (mx.map a.eval)).run P w = .ok (l, hh, M) w := by
    cases mx with
    | none =>
      simp only at hmx; subst hmx
      exact ⟨mc, rfl, run_sliceBounds r1 r2 hlo hhi rfl (Nat.le_refl _) (by omega) h2 (by simp)⟩
    | some y =>
      obtain ⟨m', rfl, hy, h3, h4, _, h6⟩ := hmx
      exact ⟨m', rfl, run_sliceBounds r1 r2 hlo hhi hy (by omega) h4 h2 (fun _ => h6)⟩
  have hrun : (Instr.sliceAt t (a.eval x) (lo.map a.eval) (hi.map a.eval) (mx.map a.eval)).run P w = .ok (.slice (if M = l then some ad else some (ad.add (l * i.size))) (hh - l) (M - l)) w := by
    simp only [Instr.sliceAt, Instr.slice, Sem.run_bind, run_und ok hd, Result.andThen_ok, he, hb, run_size ok hi', Sem.run_pure, Option.map_some]
  refine ⟨_, hrun, ?_⟩
  rcases hor with ⟨c, d, hγ, rfl⟩ | ⟨h0, hk1, hm0⟩
  · by_cases hMl : M = l ∧ l ≠ 0
    · obtain ⟨hMl, hl0⟩ := hMl
      cases mx with
      | some y => obtain ⟨m', rfl, _, _, _, h5, _⟩ := hmx; simp only at hM; omega
      | none =>
        simp only at hmx; subst hmx
        simp only at hM; subst hM
        rcases hne with h | h | h | ⟨h, hk, hk2⟩
        · simp at h
        · omega
        · exact absurd h hl0
        · subst hMl
          rw [if_pos rfl, h]
          simp only [Nat.sub_self]
          have : subCap k M none = 1 := by
            simp only [subCap]
            rw [beq_f hl0, beq_f (show ¬ Nat.mod k 2 = 0 from fun e => by have : k % 2 = 0 := e; omega), hk2]
            simp
          rw [this]
          exact .slice0
    · have hadd : (if M = l then some (⟨c, p + d, none⟩ : Addr) else some ((⟨c, p + d, none⟩ : Addr).add (l * i.size))) = some ⟨c, p + l * i.size + d, none⟩ := by
        rw [addr_add]
        by_cases h : M = l
        · have : l = 0 := by rcases Nat.eq_zero_or_pos l with h' | h'; exact h'; exact absurd ⟨h, by omega⟩ hMl
          rw [if_pos h, this]; simp
        · rw [if_neg h, show p + d + l * i.size = p + l * i.size + d from by omega]
      rw [hadd]
      refine .slice hγ ?_ ?_
      · cases m with
        | some m' => simp only at hM; subst hM; exact (capR_even _ _ _).2 rfl
        | none =>
          simp only at hM; subst hM
          simp only [subCap]
          by_cases hl : l = 0
          · subst hl
            simpa using hcap
          · rw [beq_f hl]
            by_cases hk : k % 2 = 0
            · rw [show Nat.beq (Nat.mod k 2) 0 = true from beq_t hk]
              have := hcap.1
              rw [if_pos hk] at this
              rw [capLo_even hk]
              exact (capR_even _ _ _).2 (by show M - l = k / 2 - l; omega)
            · rw [show Nat.beq (Nat.mod k 2) 0 = false from beq_f hk]
              have : capLo k < 4294967296 := by rw [capLo_odd hk]; omega
              exact (capR_odd (by show capLo k - l < _; omega)).2 (by show capLo k - l ≤ _; omega)
      · cases mx with
        | none => simp only at hmx; subst hmx; simp only at hM; omega
        | some y => obtain ⟨m', rfl, _, _, h4, _, _⟩ := hmx; simp only at hM; omega
  · subst h0; subst hk1; subst hm0
    have hl0 : l = 0 := by omega
    have hh0 : hh = 0 := by omega
    subst hl0; subst hh0
    have hM0 : M = 0 := by
      cases mx with
      | none => simp only at hmx; subst hmx; simpa using hM
      | some y => obtain ⟨m', rfl, _, h3, _, h5, _⟩ := hmx; omega
    subst hM0
    rw [if_pos rfl]
    cases m with
    | some m' => simp only at hM; subst hM; cases mx with
      | none => simp at hmx
      | some y => obtain ⟨m'', e, _, h3, _, h5, _⟩ := hmx; omega
    | none => exact .slice0
end

end
end Go.Abs
