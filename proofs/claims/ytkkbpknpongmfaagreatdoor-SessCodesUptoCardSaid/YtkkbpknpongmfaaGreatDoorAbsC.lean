/- Regions that draw their order: evaluated once, for every order. -/
import Derived.Test.YtkkbpknpongmfaaGreatDoorAbsB
import Derived.ChangeSame
import Derived.ChangeVars
import Derived.JoinedOf
import Derived.RowKit
import Derived.RowKitTokens
import Derived.LaidLaws
import Derived.LaidMore
import Derived.OpenShut
import Derived.Carry
import Derived.Lib.LaidTab
import Derived.Lib.SmallJoins
import Derived.Deep.Strs
import Derived.MakeChecks
namespace Go.Abs
noncomputable section

inductive Res
  | val (v : Value)
  | skip
  | row (k : Mk) (cs : List Value)

structure Ent where
  j : Nat
  o : Oper
  fr : AFr
  res : Res

structure DSt where
  vals : PT Value
  ents : List Ent

def clsOf (E : Env) (op : Op) : Nat :=
  match op with
  | .alloc _ => 1
  | .box .. => 1
  | .buildSlice .. => 1
  | .call { callee := .value _, .. } => 2
  | .call { callee := .invoke .., .. } => 2
  | op => bif isE E op then 2 else 0

def frFor (ops : Array Oper) (vals : PT Value) : List Nat → AFr → AFr
  | [], fr => fr
  | p :: ps, fr => match ops.toList[p]? with
    | some o => match vals.get p with
      | some v => frFor ops vals ps (fr.put o.dst v)
      | none => frFor ops vals ps fr
    | none => frFor ops vals ps fr

def idxL : Nat → List Oper → List (Nat × Oper)
  | _, [] => []
  | i, o :: l => (i, o) :: idxL (Nat.succ i) l
theorem mem_idxL : ∀ {l : List Oper} {i j : Nat} {o : Oper}, (j, o) ∈ idxL i l ↔ i ≤ j ∧ l[j - i]? = some o
  | [], i, j, o => by simp [idxL]
  | x :: l, i, j, o => by
    rw [idxL, List.mem_cons, mem_idxL]
    constructor
    · rintro (h | ⟨h1, h2⟩)
      · cases h; exact ⟨Nat.le_refl _, by simp⟩
      · have h1 : i + 1 ≤ j := h1
        refine ⟨by omega, ?_⟩
        rw [show j - i = (j - (i + 1)) + 1 from by omega, List.getElem?_cons_succ]; exact h2
    · rintro ⟨h1, h2⟩
      by_cases hij : j = i
      · subst hij; simp at h2; subst h2; exact .inl rfl
      · refine .inr ⟨show i + 1 ≤ j by omega, ?_⟩
        rw [show j - i = (j - (i + 1)) + 1 from by omega, List.getElem?_cons_succ] at h2; exact h2

def isHeap (E : Env) (x : Nat × Oper) : Bool := bif Nat.beq (clsOf E x.2.op) 0 then false else true
def heapL (E : Env) (ops : Array Oper) : List (Nat × Oper) := (idxL 0 ops.toList).filter (isHeap E)

def maskL : Nat → List (Nat × Oper) → Nat
  | m, [] => m
  | m, (y, _) :: ys => maskL (Nat.lor m (Nat.pow 2 y)) ys
theorem maskL_append : ∀ (xs ys : List (Nat × Oper)) (m : Nat), maskL m (xs ++ ys) = maskL (maskL m xs) ys
  | [], _, _ => rfl
  | (_, _) :: xs, ys, _ => by rw [List.cons_append, maskL, maskL, maskL_append xs]
theorem maskL_bit : ∀ {ys : List (Nat × Oper)} {m i : Nat}, (maskL m ys).testBit i = true ↔ m.testBit i = true ∨ ∃ y ∈ ys, y.1 = i
  | [], m, i => by simp [maskL]
  | (y, o) :: ys, m, i => by
    rw [maskL, maskL_bit]
    have : (Nat.lor m (Nat.pow 2 y)).testBit i = (m.testBit i || (2 ^ y).testBit i) := by show (m ||| 2 ^ y).testBit i = _; rw [Nat.testBit_or]
    rw [this, Nat.testBit_two_pow]
    simp only [Bool.or_eq_true, decide_eq_true_eq, List.mem_cons]
    constructor
    · rintro ((h | h) | ⟨y', h1, h2⟩)
      · exact .inl h
      · exact .inr ⟨(y, o), .inl rfl, h⟩
      · exact .inr ⟨y', .inr h1, h2⟩
    · rintro (h | ⟨y', h1 | h1, h2⟩)
      · exact .inl (.inl h)
      · subst h1; exact .inl (.inr h2)
      · exact .inr ⟨y', h1, h2⟩

def mGet (mk : PT Nat) (j : Nat) : Nat := match mk.get j with
  | some m => m
  | none => 0

/-- The masks of the beginnings of a list. -/
def preM : Nat → List (Nat × Oper) → List Nat
  | m, [] => [m]
  | m, (y, _) :: ys => m :: preM (Nat.lor m (Nat.pow 2 y)) ys
theorem mem_preM : ∀ {l : List (Nat × Oper)} {m x : Nat}, x ∈ preM m l → ∃ ys zs, l = ys ++ zs ∧ x = maskL m ys
  | [], m, x, h => by simp [preM] at h; exact ⟨[], [], rfl, h⟩
  | (y, o) :: l, m, x, h => by
    rw [preM, List.mem_cons] at h
    rcases h with rfl | h
    · exact ⟨[], _, rfl, rfl⟩
    · obtain ⟨ys, zs, rfl, rfl⟩ := mem_preM h
      exact ⟨(y, o) :: ys, zs, rfl, rfl⟩

def okX (E : Env) (mk : PT Nat) (HM : Nat) : Nat → List (Nat × Oper) → Bool
  | _, [] => true
  | m, (x, o) :: xs => bif (bif Nat.beq (clsOf E o.op) 2 then Nat.beq (Nat.land (mGet mk x) HM) m else true) then okX E mk HM (Nat.lor m (Nat.pow 2 x)) xs else false
theorem okX_spec {E : Env} {mk : PT Nat} {HM : Nat} : ∀ {l ys zs : List (Nat × Oper)} {m x : Nat} {o : Oper}, okX E mk HM m l = true → l = ys ++ (x, o) :: zs → clsOf E o.op = 2 → Nat.land (mGet mk x) HM = maskL m ys
  | (x', o') :: l, [], zs, m, x, o, h, e, hc => by
    simp only [List.nil_append, List.cons.injEq, Prod.mk.injEq] at e
    obtain ⟨⟨rfl, rfl⟩, rfl⟩ := e
    unfold okX at h
    rw [show Nat.beq (clsOf E o'.op) 2 = true from beq_t hc] at h
    simp only [cond_true] at h
    cases hb : Nat.beq (Nat.land (mGet mk x') HM) m with
    | true => exact Nat.eq_of_beq_eq_true hb
    | false => rw [hb] at h; cases h
  | (x', o') :: l, (y, oy) :: ys, zs, m, x, o, h, e, hc => by
    simp only [List.cons_append, List.cons.injEq, Prod.mk.injEq] at e
    obtain ⟨⟨rfl, rfl⟩, rfl⟩ := e
    unfold okX at h
    obtain ⟨_, h⟩ := (show _ ∧ _ from by
      cases hb : (bif Nat.beq (clsOf E o'.op) 2 then Nat.beq (Nat.land (mGet mk x') HM) m else true) with
      | true => rw [hb] at h; exact ⟨trivial, h⟩
      | false => rw [hb] at h; cases h)
    rw [maskL]
    exact okX_spec h rfl hc
  | [], ys, _, _, _, _, _, e, _ => by cases ys <;> cases e

def anyN (x : Nat) : List Nat → Bool
  | [] => false
  | y :: l => bif Nat.beq x y then true else anyN x l
theorem anyN_mem {x : Nat} : ∀ {l : List Nat}, anyN x l = true → x ∈ l
  | [], h => by cases h
  | y :: l, h => by
    unfold anyN at h
    cases hb : Nat.beq x y with
    | true => rw [Nat.eq_of_beq_eq_true hb]; exact List.mem_cons_self
    | false => rw [hb] at h; exact List.mem_cons_of_mem _ (anyN_mem h)

def okPA (E : Env) (mk : PT Nat) (HM : Nat) (Ms : List Nat) : List (Nat × Oper) → Bool
  | [] => true
  | (j, o) :: l => bif (bif Nat.beq (clsOf E o.op) 2 then true else anyN (Nat.land (mGet mk j) HM) Ms) then okPA E mk HM Ms l else false
theorem okPA_spec {E : Env} {mk : PT Nat} {HM : Nat} {Ms : List Nat} : ∀ {l : List (Nat × Oper)} {j : Nat} {o : Oper}, okPA E mk HM Ms l = true → (j, o) ∈ l → clsOf E o.op ≠ 2 → Nat.land (mGet mk j) HM ∈ Ms
  | (j', o') :: l, j, o, h, hm, hc => by
    unfold okPA at h
    obtain ⟨h1, h2⟩ := (show (bif Nat.beq (clsOf E o'.op) 2 then true else anyN (Nat.land (mGet mk j') HM) Ms) = true ∧ _ from by
      cases hb : (bif Nat.beq (clsOf E o'.op) 2 then true else anyN (Nat.land (mGet mk j') HM) Ms) with
      | true => rw [hb] at h; exact ⟨rfl, h⟩
      | false => rw [hb] at h; cases h)
    rcases List.mem_cons.1 hm with e | hm
    · simp only [Prod.mk.injEq] at e
      obtain ⟨rfl, rfl⟩ := e
      rw [show Nat.beq (clsOf E o.op) 2 = false from beq_f hc] at h1
      exact anyN_mem h1
    · exact okPA_spec h2 hm hc
  | [], _, _, _, h, _ => by cases h

/-- Each operation writes a temporary of its own. -/
def okD : List (Nat × Oper) → List Nat → Bool
  | [], _ => true
  | (_, o) :: l, ds => match o.dst with
    | none => okD l ds
    | some d => bif anyN d ds then false else okD l (d :: ds)
theorem anyN_of {x : Nat} : ∀ {l : List Nat}, x ∈ l → anyN x l = true
  | y :: l, h => by
    unfold anyN
    cases hb : Nat.beq x y with
    | true => rfl
    | false =>
      rcases List.mem_cons.1 h with rfl | h
      · rw [Nat.beq_refl] at hb; cases hb
      · exact anyN_of h
theorem bif_false {c x : Bool} (e : (bif c then false else x) = true) : c = false ∧ x = true := by
  cases c
  · exact ⟨rfl, e⟩
  · cases e
theorem bif_true {c x : Bool} (e : (bif c then x else false) = true) : c = true ∧ x = true := by
  cases c
  · cases e
  · exact ⟨rfl, e⟩
theorem okD_spec : ∀ {l : List Oper} {i : Nat} {ds : List Nat}, okD (idxL i l) ds = true → (∀ (k : Nat) (o : Oper) (d : Nat), l[k]? = some o → o.dst = some d → d ∉ ds) ∧
    ∀ (k k' : Nat) (o o' : Oper) (d : Nat), l[k]? = some o → l[k']? = some o' → o.dst = some d → o'.dst = some d → k = k'
  | [], _, _, _ => ⟨fun k o d h => by simp at h, fun k k' o o' d h => by simp at h⟩
  | x :: l, i, ds, h => by
    rw [idxL] at h
    unfold okD at h
    cases hx : x.dst with
    | none =>
      rw [hx] at h
      obtain ⟨h1, h2⟩ := okD_spec h
      refine ⟨?_, ?_⟩
      · intro k o d hk ho
        cases k with
        | zero => simp at hk; subst hk; rw [hx] at ho; cases ho
        | succ k => exact h1 k o d (by simpa using hk) ho
      · intro k k' o o' d hk hk' ho ho'
        cases k with
        | zero => simp at hk; subst hk; rw [hx] at ho; cases ho
        | succ k => cases k' with
          | zero => simp at hk'; subst hk'; rw [hx] at ho'; cases ho'
          | succ k' => rw [h2 k k' o o' d (by simpa using hk) (by simpa using hk') ho ho']
    | some dx =>
      rw [hx] at h
      obtain ⟨ha, h⟩ := bif_false h
      obtain ⟨h1, h2⟩ := okD_spec h
      have hnot : dx ∉ ds := fun hm => by rw [anyN_of hm] at ha; cases ha
      refine ⟨?_, ?_⟩
      · intro k o d hk ho
        cases k with
        | zero => simp at hk; subst hk; rw [hx] at ho; cases ho; exact hnot
        | succ k => exact fun hm => h1 k o d (by simpa using hk) ho (List.mem_cons_of_mem _ hm)
      · intro k k' o o' d hk hk' ho ho'
        cases k with
        | zero => cases k' with
          | zero => rfl
          | succ k' =>
            simp at hk; subst hk; rw [hx] at ho; cases ho
            exact absurd List.mem_cons_self (h1 k' o' _ (by simpa using hk') ho')
        | succ k => cases k' with
          | zero =>
            simp at hk'; subst hk'; rw [hx] at ho'; cases ho'
            exact absurd List.mem_cons_self (h1 k o _ (by simpa using hk) ho)
          | succ k' => rw [h2 k k' o o' d (by simpa using hk) (by simpa using hk') ho ho']

end
end Go.Abs

/- Regions that draw their order: the evaluator, and why it may be believed. -/
namespace Go.Abs
noncomputable section

section defs
variable (E : Env) (call : FuncId → List Value → AHeap → (ARet → AHeap → Bool) → Bool)

/-- An operation that acts: what comes behind it. -/
def evX (fr : AFr) (h : AHeap) (op : Op) (k : Value → AHeap → Bool) : Bool :=
  match op with
  | .call { callee := .value f, args, .. } => match fr.opnd h f, fr.opnds h args.toList with
    | some (.func (.func g) fs cs), some vs => match E.fn.get g with
      | some G => bif G.body.isSome then call g (fs.toList ++ vs ++ cs.toList) h (fun r h' => match r with
        | .ret v => k v h'
        | .pan _ => false) else false
      | none => false
    | _, _ => false
  | op => match E.opE fr h op with
    | some (v, h') => k v h'
    | none => false

variable (ops : Array Oper) (idx : List (Nat × Oper)) (mk : PT Nat) (HM : Nat) (fr0 : AFr) (K : AExit → AFr → AHeap → Bool)

def hasEnt (j : Nat) : List Ent → Bool
  | [] => false
  | e :: l => bif Nat.beq e.j j then true else hasEnt j l
def resOf (j : Nat) : List Ent → Option Res
  | [] => none
  | e :: l => bif Nat.beq e.j j then some e.res else resOf j l

def evP (h : AHeap) (M : Nat) : List (Nat × Oper) → DSt → Option DSt
  | [], st => some st
  | (j, o) :: l, st =>
    bif (bif Nat.beq (clsOf E o.op) 2 then false else Nat.beq (Nat.land (mGet mk j) HM) M) then
      bif hasEnt j st.ents || (st.vals.get j).isSome then none else
      match (frFor ops st.vals (predsOf o) fr0).wanted ops o with
      | some (some false) => evP h M l { vals := st.vals.set j undef, ents := ⟨j, o, frFor ops st.vals (predsOf o) fr0, .skip⟩ :: st.ents }
      | some (some true) => bif Nat.beq (clsOf E o.op) 0 then (match E.opV (frFor ops st.vals (predsOf o) fr0) h o.op with
          | some v => evP h M l { vals := st.vals.set j v, ents := ⟨j, o, frFor ops st.vals (predsOf o) fr0, .val v⟩ :: st.ents }
          | none => none) else (match E.rowOf (frFor ops st.vals (predsOf o) fr0) h o.op with
          | some (k, cs) => evP h M l { vals := st.vals, ents := ⟨j, o, frFor ops st.vals (predsOf o) fr0, .row k cs⟩ :: st.ents }
          | none => none)
      | _ => none
    else evP h M l st

def noG : Operand → Bool
  | .global _ => false
  | _ => true
/-- Operations whose value does not hang on the heap. -/
def heapFree (op : Op) : Bool :=
  match op with
  | .move x => noG x
  | .binOp _ _ x y _ => noG x && noG y
  | .unOp _ _ x => noG x
  | .nilCheck x => noG x
  | .fieldAddr _ x _ => noG x
  | .field _ x _ => noG x
  | .indexAddr _ x y => noG x && noG y
  | .index _ x y => noG x && noG y
  | .extract x _ => noG x
  | _ => false

def recheck (x : Nat) (h : AHeap) : List Ent → Bool
  | [] => true
  | e :: l => bif (match e.res with
    | .val v => bif Nat.testBit (mGet mk x) e.j || heapFree e.o.op then true else (match E.opV e.fr h e.o.op with
      | some v' => eqV 6 v' v
      | none => false)
    | _ => true) then recheck x h l else false

def evH : List (Nat × Oper) → Nat → DSt → AHeap → Bool
  | [], _, st, h => K .normal (frFor ops st.vals (List.range ops.size) fr0) h
  | (x, o) :: xs, M, st, h =>
    bif Nat.beq (clsOf E o.op) 1 then
      match resOf x st.ents with
      | some .skip => (match evP E ops mk HM fr0 h (Nat.lor M (Nat.pow 2 x)) idx st with
        | some st' => evH xs (Nat.lor M (Nat.pow 2 x)) st' h
        | none => false)
      | some (.row k cs) => bif (st.vals.get x).isSome then false else bif recheck E mk x (h.row cs) st.ents then
          (match evP E ops mk HM fr0 (h.row cs) (Nat.lor M (Nat.pow 2 x)) idx { st with vals := st.vals.set x (k.val h.next) } with
          | some st' => evH xs (Nat.lor M (Nat.pow 2 x)) st' (h.row cs)
          | none => false) else false
      | _ => false
    else
      bif (st.vals.get x).isSome then false else
      match (frFor ops st.vals (predsOf o) fr0).wanted ops o with
      | some (some false) => (match evP E ops mk HM fr0 h (Nat.lor M (Nat.pow 2 x)) idx { st with vals := st.vals.set x undef } with
        | some st' => evH xs (Nat.lor M (Nat.pow 2 x)) st' h
        | none => false)
      | some (some true) => evX E call (frFor ops st.vals (predsOf o) fr0) h o.op fun v h' => bif recheck E mk x h' st.ents then
          (match evP E ops mk HM fr0 h' (Nat.lor M (Nat.pow 2 x)) idx { st with vals := st.vals.set x v } with
          | some st' => evH xs (Nat.lor M (Nat.pow 2 x)) st' h'
          | none => false) else false
      | _ => false

def delDsts : List (Nat × Oper) → PT Value → PT Value
  | [], t => t
  | (_, o) :: l, t => match o.dst with
    | some d => delDsts l (t.del d)
    | none => delDsts l t
end defs

/-- A region that draws. -/
def evDraw (E : Env) (call : FuncId → List Value → AHeap → (ARet → AHeap → Bool) → Bool) (ops : Array Oper) (fr : AFr) (h : AHeap) (K : AExit → AFr → AHeap → Bool) : Bool :=
  match masksL .leaf 0 ops.toList with
  | some mk =>
    bif okD (idxL 0 ops.toList) [] && okX E mk (maskL 0 (heapL E ops)) 0 (heapL E ops) && okPA E mk (maskL 0 (heapL E ops)) (preM 0 (heapL E ops)) (idxL 0 ops.toList) then
      (match evP E ops mk (maskL 0 (heapL E ops)) { fr with tmps := delDsts (idxL 0 ops.toList) fr.tmps } h 0 (idxL 0 ops.toList) ⟨.leaf, []⟩ with
      | some st => evH E call ops (idxL 0 ops.toList) mk (maskL 0 (heapL E ops)) { fr with tmps := delDsts (idxL 0 ops.toList) fr.tmps } K (heapL E ops) 0 st h
      | none => false)
    else false
  | none => false

section
variable {P : Program} {E : Env} {call : FuncId → List Value → AHeap → (ARet → AHeap → Bool) → Bool}

/-- What a call's evaluator must promise. -/
def CallOk (P : Program) (call : FuncId → List Value → AHeap → (ARet → AHeap → Bool) → Bool) : Prop :=
  ∀ f args h K, call f args h K = true → SC P f args h (fun r h' => K r h' = true)

theorem opE_notDefer {o : Oper} {fr : AFr} {h h' : AHeap} {v : Value} (e : E.opE fr h o.op = some (v, h')) : isDefer o = false := by
  unfold isDefer
  cases hop : o.op <;> first | rfl | (rw [hop] at e; simp [Env.opE] at e)

theorem evX_sound (ok : EnvOk P E) (hcall : CallOk P call) {o : Oper} {fr : AFr} {h : AHeap} {k : Value → AHeap → Bool} (e : evX E call fr h o.op k = true) {γ : Gam} {a : Act} {w : World} {rc : Option Nat} (r1 : RelH γ h w) (r2 : RelF γ fr a)
    {Kc : Act → World → Prop} {Qc : Exit → Act → World → Prop} (hk : ∀ v v' h' w' γ', k v h' = true → RelH γ' h' w' → VR γ' v v' → Fr γ h w γ' h' w' → Kc (a.put o.dst v') w') : o.wpIn (fence rc) 0 P a w Kc Qc := by
  refine ⟨about_wide rc o w a, ?_⟩
  have hdef : ∀ v h', E.opE fr h o.op = some (v, h') → k v h' = true → Oper.uponIn (fence rc) 0 P o a Kc Qc ((o.semAt (fence rc).round a.eval).run P w) := by
    intro v h' he hkk
    have hd := opE_notDefer he
    rw [Oper.semAt_eq _ _ _ (by intro c hc; simp [isDefer, hc] at hd)]
    obtain ⟨v', w', γ', hr, rh, hvr, hf⟩ := opE_ok ok he γ a w r1 r2
    have hgo := hk v v' h' w' γ' hkk rh hvr hf
    rcases hr with hr | ⟨hr, rfl⟩ <;> rw [hr] <;> exact hgo
  generalize hop : o.op = op at e
  unfold evX at e
  split at e
  · rename_i f args ts
    split at e
    · rename_i g fs cs vs hf ha
      split at e
      · rename_i G hG
        obtain ⟨hb, e⟩ := bif_true e
        rw [Oper.semAt_eq _ _ _ (by intro c hc; rw [hop] at hc; cases hc)]
        obtain ⟨fs', cs', hev, h1, h2⟩ := (r2.opnd r1 hf).func_inv (by intro b hb; cases hb)
        have hargs := r2.opnds r1 ha
        have hrun : (execOp a.eval o).run P w = .ok (.enter g (fs' ++ args.map a.eval ++ cs')) w := by
          simp only [execOp, hop, resolve, hev, Deferred.ofValue, Sem.run_bind, Sem.run_pure, Result.andThen_ok, invoke]
          exact ok.call g G hG hb _ w
        rw [hrun]
        refine ⟨fun hd => by simp [fence, Fence.wide] at hd, callsIn_fence (CallsIn.mono (hcall _ _ _ _ e γ _ w r1 ?_) ?_)⟩
        · simpa using (h1.append hargs).append h2
        · rintro en w' ⟨r, h', γ', q, rh, rr, hfr⟩
          cases r with
          | pan v => cases q
          | ret v =>
            cases en <;> simp only [RR] at rr
            exact hk v _ h' w' γ' q rh rr hfr
      · cases e
    · cases e
  · split at e
    · rename_i v h' he
      rw [← hop] at he
      exact hdef v h' he e
    · cases e
end
end
end Go.Abs

/- Regions that draw their order: what holds between two operations, and each step. -/
namespace Go.Abs
noncomputable section

def Lst (l : Array Bool) (i : Nat) : Prop := l.getD i false = true
theorem Lst.set_same {l : Array Bool} {i : Nat} (h : i < l.size) : Lst (l.setIfInBounds i true) i := by simp [Lst, h]
theorem Lst.set_mono {l : Array Bool} {i j : Nat} (h : Lst l j) : Lst (l.setIfInBounds i true) j := getD_set_true h
theorem Lst.of_set {l : Array Bool} {i j : Nat} (h : Lst (l.setIfInBounds i true) j) : j = i ∨ Lst l j := by
  by_cases hij : i = j
  · exact .inl hij.symm
  · unfold Lst at h; rw [getD_set_ne false hij] at h; exact .inr h

def TmO (γ : Gam) (o : Oper) (a : Act) (v : Value) : Prop := ∀ d, o.dst = some d → d < a.tmps.size → ∃ v', a.tmps[d]? = some v' ∧ VR γ v v'

structure FrOk (ops : Array Oper) (fr0 : AFr) (vals : PT Value) (preds : List Nat) (fr : AFr) : Prop where
  n : fr.n = fr0.n
  df : fr.defers = fr0.defers
  at_ : ∀ t v, fr.tmps.get t = some v → fr0.tmps.get t = some v ∨ ∃ p o, p ∈ preds ∧ ops[p]? = some o ∧ o.dst = some t ∧ t < fr0.n ∧ vals.get p = some v

theorem FrOk.mono {ops : Array Oper} {fr0 fr : AFr} {vals vals' : PT Value} {ps ps' : List Nat} (h : FrOk ops fr0 vals ps fr) (hv : ∀ p v, vals.get p = some v → vals'.get p = some v) (hp : ∀ p ∈ ps, p ∈ ps') : FrOk ops fr0 vals' ps' fr :=
  ⟨h.n, h.df, fun t v e => (h.at_ t v e).imp id fun ⟨p, o, a, b, c, d, e⟩ => ⟨p, o, hp p a, b, c, d, hv p v e⟩⟩

theorem frFor_ok {ops : Array Oper} {fr0 : AFr} {vals : PT Value} : ∀ {ps qs : List Nat} {fr : AFr}, FrOk ops fr0 vals qs fr → FrOk ops fr0 vals (qs ++ ps) (frFor ops vals ps fr)
  | [], qs, fr, h => by simpa [frFor] using h
  | p :: ps, qs, fr, h => by
    have step : ∀ fr', FrOk ops fr0 vals (qs ++ [p]) fr' → FrOk ops fr0 vals (qs ++ p :: ps) (frFor ops vals ps fr') := by
      intro fr' h'
      have := frFor_ok (ps := ps) h'
      simpa using this
    have hsame : FrOk ops fr0 vals (qs ++ [p]) fr := h.mono (fun _ _ e => e) (fun _ hq => List.mem_append_left _ hq)
    rw [frFor]
    split
    · rename_i o ho
      have ho' : ops[p]? = some o := by simpa using ho
      split
      · rename_i v hv
        refine step _ ?_
        cases hd : o.dst with
        | none => exact hsame
        | some d =>
          simp only [AFr.put_def]
          cases hb : Nat.blt d fr.n with
          | false => exact hsame
          | true =>
            refine ⟨h.n, h.df, fun t u e => ?_⟩
            simp only [cond_true] at e
            rw [PT.get_set] at e
            by_cases ht : t = d
            · rw [if_pos ht, Option.some.injEq] at e
              subst e; subst ht
              exact .inr ⟨p, o, by simp, ho', hd, by rw [← h.n]; exact Nat.le_of_ble_eq_true hb, hv⟩
            · rw [if_neg ht] at e
              exact hsame.at_ t u e
      · exact step _ hsame
    · exact step _ hsame

theorem frFor_rel {ops : Array Oper} {fr0 fr : AFr} {vals : PT Value} {ps : List Nat} {γ : Gam} {a : Act} (hf : FrOk ops fr0 vals ps fr) (r : RelF γ fr0 a) (hp : ∀ p o v, p ∈ ps → ops[p]? = some o → vals.get p = some v → TmO γ o a v) : RelF γ fr a := by
  refine ⟨⟨by rw [hf.n]; exact r.tm.size, fun t v e => ?_⟩, by rw [hf.df]; exact r.df⟩
  rcases hf.at_ t v e with h | ⟨p, o, h1, h2, h3, h4, h5⟩
  · exact r.tm.at_ t v h
  · exact hp p o v h1 h2 h5 t h3 (by rw [r.tm.size]; exact h4)

theorem opV_notDefer {E : Env} {o : Oper} {fr : AFr} {h : AHeap} {v : Value} (e : E.opV fr h o.op = some v) : isDefer o = false := by
  unfold isDefer
  cases hop : o.op <;> first | rfl | (rw [hop] at e; simp [Env.opV] at e)

structure Stat (E : Env) (ops : Array Oper) (mk : PT Nat) (fr0 : AFr) : Prop where
  mask : MaskOk ops mk
  dst : ∀ (k k' : Nat) (o o' : Oper) (d : Nat), ops[k]? = some o → ops[k']? = some o' → o.dst = some d → o'.dst = some d → k = k'
  x : okX E mk (maskL 0 (heapL E ops)) 0 (heapL E ops) = true
  pa : okPA E mk (maskL 0 (heapL E ops)) (preM 0 (heapL E ops)) (idxL 0 ops.toList) = true
  fr0 : ∀ (k : Nat) (o : Oper) (d : Nat), ops[k]? = some o → o.dst = some d → fr0.tmps.get d = none

structure PendOk (γ : Gam) (a : Act) (w w0 : World) (c : Nat) (o : Oper) (k : Mk) (cs : List Value) : Prop where
  lo : w0.heap.size ≤ c
  un : ∀ b d, γ b ≠ some (c, d)
  obj : ∃ cells el, w.heap[c]? = some (.cells cells el) ∧ VRs γ cs cells.toList
  tm : ∀ d, o.dst = some d → d < a.tmps.size → a.tmps[d]? = some (k.con c)

def inX (xs : List (Nat × Oper)) (i : Nat) : Prop := ∃ o, (i, o) ∈ xs

def EntF (E : Env) (γ : Gam) (a : Act) (w w0 : World) (listed : Array Bool) (xs : List (Nat × Oper)) (st : DSt) (h : AHeap) (pc : Nat → Nat) (ops : Array Oper) (e : Ent) : Prop :=
  match e.res with
  | .val v => clsOf E e.o.op = 0 ∧ e.fr.wanted ops e.o = some (some true) ∧ st.vals.get e.j = some v ∧ (¬ Lst listed e.j → E.opV e.fr h e.o.op = some v)
  | .skip => e.fr.wanted ops e.o = some (some false) ∧ st.vals.get e.j = some undef
  | .row k cs => e.fr.wanted ops e.o = some (some true) ∧ E.rowOf e.fr h e.o.op = some (k, cs) ∧ clsOf E e.o.op = 1 ∧ (inX xs e.j → st.vals.get e.j = none) ∧ (Lst listed e.j → inX xs e.j → PendOk γ a w w0 (pc e.j) e.o k cs)

def isRow : Res → Bool
  | .row _ _ => true
  | _ => false

structure Core (E : Env) (ops : Array Oper) (mk : PT Nat) (fr0 : AFr) (γ0 : Gam) (h0 : AHeap) (w0 : World) (listed : Array Bool) (γ : Gam) (a : Act) (w : World) (xs : List (Nat × Oper)) (st : DSt) (h : AHeap) (pc : Nat → Nat) : Prop where
  sz : listed.size = ops.size
  cl : Closed ops (Lst listed)
  rh : RelH γ h w
  rf : RelF γ fr0 a
  fr : Fr γ0 h0 w0 γ h w
  vl : ∀ p o v, ops[p]? = some o → st.vals.get p = some v → Lst listed p → TmO γ o a v
  xX : ∀ x ∈ xs, clsOf E x.2.op = 2 → ¬ Lst listed x.1
  ent : ∀ e ∈ st.ents, ops[e.j]? = some e.o ∧ clsOf E e.o.op ≠ 2 ∧ FrOk ops fr0 st.vals (predsOf e.o) e.fr ∧ EntF E γ a w w0 listed xs st h pc ops e
  uni : ∀ e ∈ st.ents, ∀ e' ∈ st.ents, e.j = e'.j → e = e'
  lsE : ∀ j o, ops[j]? = some o → clsOf E o.op ≠ 2 → Lst listed j → ∃ e ∈ st.ents, e.j = j
  pinj : ∀ e ∈ st.ents, ∀ e' ∈ st.ents, isRow e.res = true → isRow e'.res = true → Lst listed e.j → Lst listed e'.j → inX xs e.j → inX xs e'.j → pc e.j = pc e'.j → e.j = e'.j

/-- What has been done with, and evaluated. -/
def Pre (E : Env) (ops : Array Oper) (mk : PT Nat) (listed : Array Bool) (xs : List (Nat × Oper)) (M : Nat) (st : DSt) : Prop :=
  ∃ ys, heapL E ops = ys ++ xs ∧ M = maskL 0 ys ∧ (∀ y ∈ ys, Lst listed y.1) ∧
    ∀ j o, (j, o) ∈ idxL 0 ops.toList → clsOf E o.op ≠ 2 → ∀ ys' zs', ys = ys' ++ zs' → Nat.land (mGet mk j) (maskL 0 (heapL E ops)) = maskL 0 ys' → ∃ e ∈ st.ents, e.j = j

def Nx (listed : Array Bool) : List (Nat × Oper) → Prop
  | [] => True
  | x :: _ => ¬ Lst listed x.1

section
variable {P : Program} {E : Env} (ok : EnvOk P E) {ops : Array Oper} {mk : PT Nat} {fr0 : AFr} {γ0 : Gam} {h0 : AHeap} {w0 : World} {listed : Array Bool} {γ : Gam} {a : Act} {w : World}
  {xs : List (Nat × Oper)} {M : Nat} {st : DSt} {h : AHeap} {pc : Nat → Nat}

theorem heapL_at {x : Nat × Oper} (hx : x ∈ heapL E ops) : ops[x.1]? = some x.2 ∧ clsOf E x.2.op ≠ 0 := by
  unfold heapL at hx
  rw [List.mem_filter] at hx
  obtain ⟨h1, h2⟩ := hx
  have := (mem_idxL (j := x.1) (o := x.2)).1 h1
  refine ⟨by simpa using this.2, fun hc => ?_⟩
  unfold isHeap at h2
  rw [show Nat.beq (clsOf E x.2.op) 0 = true from beq_t hc] at h2; cases h2
theorem mem_heapL {i : Nat} {o : Oper} (ho : ops[i]? = some o) (hc : clsOf E o.op ≠ 0) : (i, o) ∈ heapL E ops := by
  unfold heapL
  rw [List.mem_filter]
  refine ⟨mem_idxL.2 ⟨Nat.zero_le _, by simpa using ho⟩, ?_⟩
  unfold isHeap
  rw [show Nat.beq (clsOf E o.op) 0 = false from beq_f hc]; rfl
theorem mem_idx {i : Nat} {o : Oper} (ho : ops[i]? = some o) : (i, o) ∈ idxL 0 ops.toList := mem_idxL.2 ⟨Nat.zero_le _, by simpa using ho⟩

/-- The heap operations ahead of one whose mask is known are done with, where it is ready. -/
theorem ready_listed (s : Stat E ops mk fr0) (hc : Closed ops (Lst listed)) {i : Nat} {o : Oper} (ho : ops[i]? = some o) (hr : ∀ p ∈ predsOf o, Lst listed p) {ys : List (Nat × Oper)} (hm : Nat.land (mGet mk i) (maskL 0 (heapL E ops)) = maskL 0 ys) :
    ∀ y ∈ ys, Lst listed y.1 := by
  intro y hy
  have hb : (maskL 0 ys).testBit y.1 = true := maskL_bit.2 (.inr ⟨y, hy, rfl⟩)
  rw [← hm] at hb
  have hb' : (mGet mk i).testBit y.1 = true := by
    have : (mGet mk i &&& maskL 0 (heapL E ops)).testBit y.1 = true := hb
    rw [Nat.testBit_and] at this
    simp only [Bool.and_eq_true] at this
    exact this.1
  unfold mGet at hb'
  split at hb'
  · rename_i m hmk
    exact (s.mask.anc _ _ _ hmk hb').listed hc fun o' ho' => by rw [ho, Option.some.injEq] at ho'; subst ho'; exact hr
  · simp at hb'

theorem prefix_cmp {α : Type} : ∀ {a b c d : List α}, a ++ b = c ++ d → (∃ e, a = c ++ e) ∨ ∃ x e, c = a ++ x :: e ∧ b = x :: e ++ d
  | [], b, [], d, _ => .inl ⟨[], rfl⟩
  | [], b, x :: c, d, h => .inr ⟨x, c, rfl, by simpa using h⟩
  | y :: a, b, [], d, _ => .inl ⟨y :: a, rfl⟩
  | y :: a, b, x :: c, d, h => by
    simp only [List.cons_append, List.cons.injEq] at h
    obtain ⟨rfl, h⟩ := h
    rcases prefix_cmp h with ⟨e, rfl⟩ | ⟨z, e, rfl, rfl⟩
    · exact .inl ⟨e, rfl⟩
    · exact .inr ⟨z, e, rfl, rfl⟩

/-- An operation that is ready, and does not act, has been evaluated. -/
theorem Core.has (s : Stat E ops mk fr0) (v : Core E ops mk fr0 γ0 h0 w0 listed γ a w xs st h pc) (p : Pre E ops mk listed xs M st) (nx : Nx listed xs) {i : Nat} {o : Oper} (ho : ops[i]? = some o) (hc : clsOf E o.op ≠ 2) (hr : ∀ p ∈ predsOf o, Lst listed p) : ∃ e ∈ st.ents, e.j = i := by
  obtain ⟨ys', zs', hh, hm⟩ := mem_preM (okPA_spec s.pa (mem_idx ho) hc)
  obtain ⟨ys, hys, hM, hl, com⟩ := p
  have hall := ready_listed s v.cl ho hr hm
  rw [hys] at hh
  rcases prefix_cmp hh with ⟨e, he⟩ | ⟨x, e, he, hx⟩
  · exact com i o (mem_idx ho) hc ys' e he hm
  · rw [hx] at nx
    exact absurd (hall x (by rw [he]; simp)) nx

/-- An operation that is ready, and acts, is the next that does. -/
theorem Core.head (s : Stat E ops mk fr0) (v : Core E ops mk fr0 γ0 h0 w0 listed γ a w xs st h pc) (p : Pre E ops mk listed xs M st) (nx : Nx listed xs) {i : Nat} {o : Oper} (ho : ops[i]? = some o) (hc : clsOf E o.op = 2) (hr : ∀ p ∈ predsOf o, Lst listed p) (hn : ¬ Lst listed i) : ∃ zs, xs = (i, o) :: zs := by
  obtain ⟨ys, hys, hM, hl, com⟩ := p
  have hmem : (i, o) ∈ heapL E ops := mem_heapL ho (by rw [hc]; decide)
  obtain ⟨ys', zs', hh⟩ := List.append_of_mem hmem
  have hall := ready_listed s v.cl ho hr (okX_spec s.x hh hc)
  rw [hys] at hh
  rcases prefix_cmp hh with ⟨e, he⟩ | ⟨x, e, he, hx⟩
  · subst he
    rw [List.append_assoc] at hh
    have hh' := List.append_cancel_left hh
    cases e with
    | nil => exact ⟨zs', by simpa using hh'⟩
    | cons y e =>
      simp only [List.cons_append, List.cons.injEq] at hh'
      obtain ⟨rfl, _⟩ := hh'
      exact absurd (hl (i, o) (by simp)) hn
  · rw [hx] at nx
    exact absurd (hall x (by rw [he]; simp)) nx

theorem mGet_dir (s : Stat E ops mk fr0) {x : Nat} {j : Nat} {o : Oper} (ho : ops[x]? = some o) (hl : Closed ops (Lst listed)) (hr : ∀ p ∈ predsOf o, Lst listed p) (hb : (mGet mk x).testBit j = true) : Lst listed j := by
  unfold mGet at hb
  split at hb
  · rename_i m hmk
    exact (s.mask.anc _ _ _ hmk hb).listed hl fun o' ho' => by rw [ho, Option.some.injEq] at ho'; subst ho'; exact hr
  · simp at hb

/-- A temporary written: another operation's is another. -/
theorem TmO.put_ne (s : Stat E ops mk fr0) {i p : Nat} {o op : Oper} (ho : ops[i]? = some o) (hp : ops[p]? = some op) (hne : p ≠ i) {v u : Value} (hv : TmO γ op a v) : TmO γ op (a.put o.dst u) v := by
  intro d hd hlt
  have hlt' : d < a.tmps.size := by cases hdo : o.dst <;> simpa [Act.put, hdo] using hlt
  obtain ⟨v', h1, h2⟩ := hv d hd hlt'
  refine ⟨v', ?_, h2⟩
  cases hdo : o.dst with
  | none => exact h1
  | some e =>
    have : e ≠ d := fun h => hne (s.dst p i op o d hp ho hd (by rw [hdo, h]))
    simp only [Act.put]
    rw [Array.getElem?_setIfInBounds_ne this]; exact h1
theorem TmO.put_same {o : Oper} {v v' : Value} (hv : VR γ v v') : TmO γ o (a.put o.dst v') v := by
  intro d hd hlt
  refine ⟨v', ?_, hv⟩
  simp only [Act.put, hd] at hlt ⊢
  simp at hlt
  simp [hlt]
theorem TmO.mono {γ' : Gam} (hl : γ.le γ') {o : Oper} {v : Value} (h : TmO γ o a v) : TmO γ' o a v := fun d hd hlt => let ⟨v', h1, h2⟩ := h d hd hlt; ⟨v', h1, h2.mono hl⟩
theorem rf_put (s : Stat E ops mk fr0) {i : Nat} {o : Oper} (ho : ops[i]? = some o) (r : RelF γ fr0 a) (u : Value) : RelF γ fr0 (a.put o.dst u) := by
  cases hd : o.dst with
  | none => exact r
  | some d =>
    simp only [Act.put]
    refine ⟨⟨by simpa using r.tm.size, fun t v e => ?_⟩, r.df⟩
    obtain ⟨v', h1, h2⟩ := r.tm.at_ t v e
    have : d ≠ t := fun h => by subst h; rw [s.fr0 i o d ho hd] at e; cases e
    exact ⟨v', by rw [Array.getElem?_setIfInBounds_ne this]; exact h1, h2⟩
theorem pend_put (s : Stat E ops mk fr0) {i p : Nat} {o op : Oper} (ho : ops[i]? = some o) (hp : ops[p]? = some op) (hne : p ≠ i) {c : Nat} {k : Mk} {cs : List Value} (h : PendOk γ a w w0 c op k cs) (u : Value) : PendOk γ (a.put o.dst u) w w0 c op k cs := by
  refine ⟨h.lo, h.un, h.obj, fun d hd hlt => ?_⟩
  have hlt' : d < a.tmps.size := by cases hdo : o.dst <;> simpa [Act.put, hdo] using hlt
  have := h.tm d hd hlt'
  cases hdo : o.dst with
  | none => exact this
  | some e =>
    have hn : e ≠ d := fun h => hne (s.dst p i op o d hp ho hd (by rw [hdo, h]))
    simp only [Act.put]
    rw [Array.getElem?_setIfInBounds_ne hn]; exact this

/-- What an operation that does not act leaves behind. -/
theorem Core.put (s : Stat E ops mk fr0) (v : Core E ops mk fr0 γ0 h0 w0 listed γ a w xs st h pc) (hxs : ∀ x ∈ xs, x ∈ heapL E ops) {i : Nat} {o : Oper} (ho : ops[i]? = some o) (hn : ¬ Lst listed i) (hr : ∀ p ∈ predsOf o, Lst listed p) {e : Ent} (he : e ∈ st.ents) (hei : e.j = i) (hrow : isRow e.res = false)
    {u u' : Value} (hu : st.vals.get i = some u) (hv : VR γ u u') : Core E ops mk fr0 γ0 h0 w0 (listed.setIfInBounds i true) γ (a.put o.dst u') w xs st h pc := by
  have hlt : i < listed.size := by rw [v.sz]; exact (Array.getElem?_eq_some_iff.1 ho).1
  have hce : clsOf E o.op ≠ 2 := by
    obtain ⟨h1, h2, _⟩ := v.ent e he
    rw [hei, ho, Option.some.injEq] at h1; rw [h1]; exact h2
  refine ⟨by simpa using v.sz, ?_, v.rh, rf_put s ho v.rf u', v.fr, ?_, ?_, ?_, v.uni, ?_, ?_⟩
  · intro j oj hj hl p hp
    rcases hl.of_set with rfl | hl
    · rw [ho, Option.some.injEq] at hj; subst hj; exact (hr p hp).set_mono
    · exact (v.cl j oj hj hl p hp).set_mono
  · intro p op x hp hx hl
    by_cases hpi : p = i
    · subst hpi
      rw [ho, Option.some.injEq] at hp; subst hp
      rw [hu, Option.some.injEq] at hx; subst hx
      exact .put_same hv
    · exact (v.vl p op x hp hx (hl.of_set.resolve_left hpi)).put_ne s ho hp hpi
  · intro x hx hc hl
    rcases hl.of_set with h | h
    · have := (heapL_at (E := E) (ops := ops) (x := x) (hxs x hx)).1
      rw [h, ho, Option.some.injEq] at this; subst this
      exact hce hc
    · exact v.xX x hx hc h
  · intro e' he'
    obtain ⟨g1, g2, g3, g4⟩ := v.ent e' he'
    refine ⟨g1, g2, g3, ?_⟩
    unfold EntF at g4 ⊢
    by_cases hj : e'.j = i
    · have := v.uni e' he' e he (by rw [hj, hei])
      subst this
      cases hres : e'.res with
      | val x => rw [hres] at g4; exact ⟨g4.1, g4.2.1, g4.2.2.1, fun hnl => absurd (by rw [hj]; exact Lst.set_same hlt) hnl⟩
      | skip => rw [hres] at g4; exact g4
      | row k cs => rw [hres] at hrow; cases hrow
    · cases hres : e'.res with
      | val x => rw [hres] at g4; exact ⟨g4.1, g4.2.1, g4.2.2.1, fun hnl => g4.2.2.2 fun hl => hnl hl.set_mono⟩
      | skip => rw [hres] at g4; exact g4
      | row k cs =>
        rw [hres] at g4
        exact ⟨g4.1, g4.2.1, g4.2.2.1, g4.2.2.2.1, fun hl hx => pend_put s ho g1 hj (g4.2.2.2.2 (hl.of_set.resolve_left hj) hx) u'⟩
  · intro j oj hj hc hl
    rcases hl.of_set with rfl | hl
    · exact ⟨e, he, hei⟩
    · exact v.lsE j oj hj hc hl
  · intro e1 h1 e2 h2 r1 r2 l1 l2 x1 x2 hpc
    have n1 : e1.j ≠ i := fun h => by have := v.uni e1 h1 e he (by rw [h, hei]); subst this; rw [r1] at hrow; cases hrow
    have n2 : e2.j ≠ i := fun h => by have := v.uni e2 h2 e he (by rw [h, hei]); subst this; rw [r2] at hrow; cases hrow
    exact v.pinj e1 h1 e2 h2 r1 r2 (l1.of_set.resolve_left n1) (l2.of_set.resolve_left n2) x1 x2 hpc
theorem Pre.set (p : Pre E ops mk listed xs M st) (i : Nat) : Pre E ops mk (listed.setIfInBounds i true) xs M st := by
  obtain ⟨ys, h1, h2, h3, h4⟩ := p
  exact ⟨ys, h1, h2, fun y hy => (h3 y hy).set_mono, h4⟩
theorem Pre.sub (p : Pre E ops mk listed xs M st) : ∀ x ∈ xs, x ∈ heapL E ops := by
  obtain ⟨ys, h1, _⟩ := p
  intro x hx; rw [h1]; exact List.mem_append_right _ hx

theorem RelH.extra (r : RelH γ h w) (o : Obj) : RelH γ h (w.alloc o) := by
  have hold : ∀ {c : Nat}, c < w.heap.size → (w.alloc o).heap[c]? = w.heap[c]? := fun hc => by rw [heap_alloc, if_neg (by omega)]
  refine ⟨r.glob, fun b c d e => ⟨(r.dom b c d e).1, by have := (r.dom b c d e).2; simp only [World.size_alloc]; omega⟩, ?_, r.inj, ?_⟩
  · intro b x hx
    obtain ⟨c, d, o', h1, h2, h3⟩ := r.obj b x hx
    exact ⟨c, d, o', h1, by rw [hold (r.dom _ _ _ h1).2]; exact h2, h3⟩
  · intro q b sz hq
    obtain ⟨c, s, m, arr, el, fz, h1, h2, h3, h4, h5⟩ := r.grow q b sz hq
    exact ⟨c, s, m, arr, el, fz, h1, h2, by rw [hold (r.dom _ _ _ h1).2]; exact h3, h4, h5⟩
theorem Fr.extra (γ : Gam) (h : AHeap) (w : World) (o : Obj) : Fr γ h w γ h (w.alloc o) :=
  ⟨Gam.le_refl γ, Nat.le_refl _, rfl, rfl, rfl, rfl, by simp, fun _ _ e => e, fun c hc p => ⟨p, by rw [heap_alloc, if_neg (by omega)]⟩, fun b c d e e' => by rw [e] at e'; cases e'⟩

/-- A row that is made early lies there without a name. -/
theorem Core.row (s : Stat E ops mk fr0) (v : Core E ops mk fr0 γ0 h0 w0 listed γ a w xs st h pc) (hxs : ∀ x ∈ xs, x ∈ heapL E ops) (hin : ∀ x ∈ heapL E ops, Lst listed x.1 ∨ x ∈ xs) {i : Nat} {o : Oper} (ho : ops[i]? = some o) (hn : ¬ Lst listed i) (hr : ∀ p ∈ predsOf o, Lst listed p) {e : Ent} (he : e ∈ st.ents) (hei : e.j = i)
    {k : Mk} {cs : List Value} (hres : e.res = .row k cs) {cells : Array Value} {el : TypeId} (hv : VRs γ cs cells.toList) :
    Core E ops mk fr0 γ0 h0 w0 (listed.setIfInBounds i true) γ (a.put o.dst (k.con w.heap.size)) (w.alloc (.cells cells el)) xs st h (fun j => if j = i then w.heap.size else pc j) := by
  have hlt : i < listed.size := by rw [v.sz]; exact (Array.getElem?_eq_some_iff.1 ho).1
  obtain ⟨e1, e2, e3, e4⟩ := v.ent e he
  rw [hei, ho, Option.some.injEq] at e1
  unfold EntF at e4
  rw [hres] at e4
  obtain ⟨_, _, hc1, hvn, _⟩ := e4
  rw [← e1] at hc1
  have hix : inX xs i := ⟨o, (hin (i, o) (mem_heapL ho (by rw [hc1]; decide))).resolve_left hn⟩
  have hvn := hvn (by rw [hei]; exact hix)
  refine ⟨by simpa using v.sz, ?_, v.rh.extra _, rf_put s ho v.rf _, v.fr.trans (Fr.extra γ h w _), ?_, ?_, ?_, v.uni, ?_, ?_⟩
  · intro j oj hj hl p hp
    rcases hl.of_set with rfl | hl
    · rw [ho, Option.some.injEq] at hj; subst hj; exact (hr p hp).set_mono
    · exact (v.cl j oj hj hl p hp).set_mono
  · intro p op x hp hx hl
    by_cases hpi : p = i
    · subst hpi
      rw [hei] at hvn; rw [hvn] at hx; cases hx
    · exact (v.vl p op x hp hx (hl.of_set.resolve_left hpi)).put_ne s ho hp hpi
  · intro x hx hc hl
    rcases hl.of_set with h | h
    · have := (heapL_at (E := E) (ops := ops) (x := x) (hxs x hx)).1
      rw [h, ho, Option.some.injEq] at this; subst this
      rw [hc1] at hc; cases hc
    · exact v.xX x hx hc h
  · intro e' he'
    obtain ⟨g1, g2, g3, g4⟩ := v.ent e' he'
    refine ⟨g1, g2, g3, ?_⟩
    unfold EntF at g4 ⊢
    by_cases hj : e'.j = i
    · have := v.uni e' he' e he (by rw [hj, hei])
      subst this
      rw [hres] at g4 ⊢
      refine ⟨g4.1, g4.2.1, g4.2.2.1, g4.2.2.2.1, fun _ _ => ?_⟩
      simp only [hj, if_true]
      rw [← e1]
      refine ⟨v.fr.size, fun b d h => by have := (v.rh.dom _ _ _ h).2; omega, ⟨cells, el, by rw [heap_alloc, if_pos rfl], hv⟩, fun d hd hltd => ?_⟩
      simp only [Act.put, hd] at hltd ⊢
      simp at hltd
      simp [hltd]
    · cases hr' : e'.res with
      | val x => rw [hr'] at g4; exact ⟨g4.1, g4.2.1, g4.2.2.1, fun hnl => g4.2.2.2 fun hl => hnl hl.set_mono⟩
      | skip => rw [hr'] at g4; exact g4
      | row k' cs' =>
        rw [hr'] at g4
        refine ⟨g4.1, g4.2.1, g4.2.2.1, g4.2.2.2.1, fun hl hx => ?_⟩
        simp only [hj, if_false]
        have hp := pend_put s ho g1 hj (g4.2.2.2.2 (hl.of_set.resolve_left hj) hx) (k.con w.heap.size)
        obtain ⟨cells', el', hw', hv'⟩ := hp.obj
        have hlt' : pc e'.j < w.heap.size := (Array.getElem?_eq_some_iff.1 hw').1
        exact ⟨hp.lo, hp.un, ⟨cells', el', by rw [heap_alloc, if_neg (by omega)]; exact hw', hv'⟩, hp.tm⟩
  · intro j oj hj hc hl
    rcases hl.of_set with rfl | hl
    · exact ⟨e, he, hei⟩
    · exact v.lsE j oj hj hc hl
  · intro e1 h1 e2 h2 r1 r2 l1 l2 x1 x2 hpc
    have hlo : ∀ e' ∈ st.ents, isRow e'.res = true → Lst listed e'.j → inX xs e'.j → pc e'.j < w.heap.size := by
      intro e' he' hr' hl' hx'
      obtain ⟨_, _, _, g4⟩ := v.ent e' he'
      unfold EntF at g4
      cases hq : e'.res with
      | row k' cs' =>
        rw [hq] at g4
        obtain ⟨cells', el', hw', _⟩ := (g4.2.2.2.2 hl' hx').obj
        exact (Array.getElem?_eq_some_iff.1 hw').1
      | val _ => rw [hq] at hr'; cases hr'
      | skip => rw [hq] at hr'; cases hr'
    by_cases n1 : e1.j = i
    · by_cases n2 : e2.j = i
      · rw [n1, n2]
      · simp only [n1, n2, if_true, if_false] at hpc
        have := hlo e2 h2 r2 (l2.of_set.resolve_left n2) x2
        omega
    · by_cases n2 : e2.j = i
      · simp only [n1, n2, if_true, if_false] at hpc
        have := hlo e1 h1 r1 (l1.of_set.resolve_left n1) x1
        omega
      · simp only [n1, n2, if_false] at hpc
        exact v.pinj e1 h1 e2 h2 r1 r2 (l1.of_set.resolve_left n1) (l2.of_set.resolve_left n2) x1 x2 hpc
end
end
end Go.Abs

/- Regions that draw their order: what is evaluated at a stage; rows get their names. -/
namespace Go.Abs
noncomputable section

theorem hasEnt_iff {j : Nat} : ∀ {l : List Ent}, hasEnt j l = true ↔ ∃ e ∈ l, e.j = j
  | [] => by simp [hasEnt]
  | e :: l => by
    unfold hasEnt
    cases hb : Nat.beq e.j j with
    | true => simp [Nat.eq_of_beq_eq_true hb]
    | false =>
      have : e.j ≠ j := fun h => by rw [beq_t h] at hb; cases hb
      simp [this, hasEnt_iff (l := l)]
theorem resOf_some {j : Nat} {r : Res} : ∀ {l : List Ent}, resOf j l = some r → ∃ e ∈ l, e.j = j ∧ e.res = r
  | [], h => by cases h
  | e :: l, h => by
    unfold resOf at h
    cases hb : Nat.beq e.j j with
    | true =>
      rw [hb] at h
      simp only [cond_true, Option.some.injEq] at h
      exact ⟨e, List.mem_cons_self, Nat.eq_of_beq_eq_true hb, h⟩
    | false =>
      rw [hb] at h
      obtain ⟨e', h1, h2⟩ := resOf_some h
      exact ⟨e', List.mem_cons_of_mem _ h1, h2⟩

/-- An entry just made. -/
def EntN (E : Env) (ops : Array Oper) (fr0 : AFr) (h : AHeap) (vals : PT Value) (e : Ent) : Prop :=
  clsOf E e.o.op ≠ 2 ∧ FrOk ops fr0 vals (predsOf e.o) e.fr ∧ match e.res with
    | .val v => clsOf E e.o.op = 0 ∧ e.fr.wanted ops e.o = some (some true) ∧ vals.get e.j = some v ∧ E.opV e.fr h e.o.op = some v
    | .skip => e.fr.wanted ops e.o = some (some false) ∧ vals.get e.j = some undef
    | .row k cs => e.fr.wanted ops e.o = some (some true) ∧ E.rowOf e.fr h e.o.op = some (k, cs) ∧ clsOf E e.o.op = 1 ∧ vals.get e.j = none

theorem EntN.mono {E : Env} {ops : Array Oper} {fr0 : AFr} {h : AHeap} {vals vals' : PT Value} {e : Ent} (n : EntN E ops fr0 h vals e) (hv : ∀ p v, vals.get p = some v → vals'.get p = some v) (hj : vals'.get e.j = vals.get e.j) : EntN E ops fr0 h vals' e := by
  obtain ⟨a, b, c⟩ := n
  refine ⟨a, b.mono hv (fun _ h => h), ?_⟩
  cases hr : e.res <;> rw [hr] at c <;> simp only [hj] <;> exact c

theorem clsOf_le (E : Env) (op : Op) : clsOf E op = 0 ∨ clsOf E op = 1 ∨ clsOf E op = 2 := by
  unfold clsOf
  split
  · exact .inr (.inl rfl)
  · exact .inr (.inl rfl)
  · exact .inr (.inl rfl)
  · exact .inr (.inr rfl)
  · exact .inr (.inr rfl)
  · generalize isE E _ = b
    cases b
    · exact .inl rfl
    · exact .inr (.inr rfl)

structure PSpec (E : Env) (ops : Array Oper) (mk : PT Nat) (HM : Nat) (fr0 : AFr) (h : AHeap) (M : Nat) (l : List (Nat × Oper)) (st st' : DSt) : Prop where
  vals : ∀ p v, st.vals.get p = some v → st'.vals.get p = some v
  ents : ∀ e ∈ st.ents, e ∈ st'.ents
  new : ∀ e ∈ st'.ents, e ∈ st.ents ∨ ((e.j, e.o) ∈ l ∧ hasEnt e.j st.ents = false ∧ st.vals.get e.j = none ∧ EntN E ops fr0 h st'.vals e)
  vnew : ∀ p, st'.vals.get p = st.vals.get p ∨ (hasEnt p st.ents = false ∧ st.vals.get p = none ∧ ∃ e ∈ st'.ents, e.j = p)
  com : ∀ j o, (j, o) ∈ l → clsOf E o.op ≠ 2 → Nat.land (mGet mk j) HM = M → ∃ e ∈ st'.ents, e.j = j
  uni : (∀ e ∈ st.ents, ∀ e' ∈ st.ents, e.j = e'.j → e = e') → ∀ e ∈ st'.ents, ∀ e' ∈ st'.ents, e.j = e'.j → e = e'

theorem PSpec.cons {E : Env} {ops : Array Oper} {mk : PT Nat} {HM : Nat} {fr0 : AFr} {h : AHeap} {M : Nat} {l : List (Nat × Oper)} {st st1 st' : DSt} {e : Ent}
    (he : hasEnt e.j st.ents = false) (hv : st.vals.get e.j = none) (h1 : st1.ents = e :: st.ents) (h2 : ∀ p, p ≠ e.j → st1.vals.get p = st.vals.get p) (n : EntN E ops fr0 h st1.vals e)
    (s : PSpec E ops mk HM fr0 h M l st1 st') : PSpec E ops mk HM fr0 h M ((e.j, e.o) :: l) st st' := by
  have hmem : e ∈ st1.ents := by rw [h1]; exact List.mem_cons_self
  have hh : ∀ p, hasEnt p st1.ents = false → hasEnt p st.ents = false ∧ p ≠ e.j := by
    intro p hp
    rw [h1] at hp
    unfold hasEnt at hp
    obtain ⟨a, b⟩ := (show Nat.beq e.j p = false ∧ hasEnt p st.ents = false from by
      cases hb : Nat.beq e.j p with
      | true => rw [hb] at hp; cases hp
      | false => rw [hb] at hp; exact ⟨rfl, hp⟩)
    exact ⟨b, fun heq => by rw [beq_t heq.symm] at a; cases a⟩
  have hold : ∀ p v, st.vals.get p = some v → st1.vals.get p = some v := by
    intro p v hp
    have : p ≠ e.j := fun h => by subst h; rw [hv] at hp; cases hp
    rw [h2 p this]; exact hp
  refine ⟨fun p v hp => s.vals p v (hold p v hp), fun e' he' => s.ents e' (by rw [h1]; exact List.mem_cons_of_mem _ he'), ?_, ?_, ?_, ?_⟩
  · intro e' he'
    rcases s.new e' he' with hm | ⟨hm, hn, hvn, hN⟩
    · rw [h1] at hm
      rcases List.mem_cons.1 hm with rfl | hm
      · refine .inr ⟨List.mem_cons_self, he, hv, n.mono s.vals ?_⟩
        rcases s.vnew e'.j with h | ⟨h, _⟩
        · exact h
        · exact absurd rfl (hh _ h).2
      · exact .inl hm
    · obtain ⟨a, b⟩ := hh _ hn
      exact .inr ⟨List.mem_cons_of_mem _ hm, a, by rw [← h2 _ b]; exact hvn, hN⟩
  · intro p
    by_cases hp : p = e.j
    · subst hp
      exact .inr ⟨he, hv, e, s.ents e hmem, rfl⟩
    · rcases s.vnew p with h | ⟨a, b, c⟩
      · rw [h2 p hp] at h; exact .inl h
      · exact .inr ⟨(hh p a).1, by rw [← h2 p hp]; exact b, c⟩
  · intro j o hm hc hM
    rcases List.mem_cons.1 hm with h | hm
    · simp only [Prod.mk.injEq] at h
      exact ⟨e, s.ents e hmem, h.1.symm⟩
    · exact s.com j o hm hc hM
  · intro hu
    refine s.uni ?_
    intro e1 m1 e2 m2 hj
    rw [h1] at m1 m2
    have hno : ∀ e' ∈ st.ents, e'.j ≠ e.j := fun e' h' hj' => by rw [hasEnt_iff.2 ⟨e', h', hj'⟩] at he; cases he
    rcases List.mem_cons.1 m1 with n1 | n1
    · rcases List.mem_cons.1 m2 with n2 | n2
      · rw [n1, n2]
      · exact absurd (by rw [← hj, n1]) (hno e2 n2)
    · rcases List.mem_cons.1 m2 with n2 | n2
      · exact absurd (by rw [hj, n2]) (hno e1 n1)
      · exact hu e1 n1 e2 n2 hj

theorem evP_spec {E : Env} {ops : Array Oper} {mk : PT Nat} {HM : Nat} {fr0 : AFr} {h : AHeap} {M : Nat} : ∀ {l : List (Nat × Oper)} {st st' : DSt}, evP E ops mk HM fr0 h M l st = some st' → PSpec E ops mk HM fr0 h M l st st'
  | [], st, st', e => by
    simp only [evP, Option.some.injEq] at e; subst e
    exact ⟨fun _ _ h => h, fun _ h => h, fun _ h => .inl h, fun _ => .inl rfl, (fun _ _ h => by cases h), fun h => h⟩
  | (j, o) :: l, st, st', e => by
    have hskip : (clsOf E o.op = 2 ∨ Nat.land (mGet mk j) HM ≠ M) → PSpec E ops mk HM fr0 h M l st st' → PSpec E ops mk HM fr0 h M ((j, o) :: l) st st' := by
      intro hne s
      refine ⟨s.vals, s.ents, fun e' he' => (s.new e' he').imp id fun ⟨a, b⟩ => ⟨List.mem_cons_of_mem _ a, b⟩, s.vnew, ?_, s.uni⟩
      intro j' o' hm hc hM
      rcases List.mem_cons.1 hm with h | hm
      · simp only [Prod.mk.injEq] at h
        obtain ⟨rfl, rfl⟩ := h
        rcases hne with h | h
        · exact absurd h hc
        · exact absurd hM h
      · exact s.com j' o' hm hc hM
    unfold evP at e
    cases hb : (bif Nat.beq (clsOf E o.op) 2 then false else Nat.beq (Nat.land (mGet mk j) HM) M) with
    | false =>
      rw [hb] at e
      refine hskip ?_ (evP_spec e)
      by_cases hc : clsOf E o.op = 2
      · exact .inl hc
      · rw [show Nat.beq (clsOf E o.op) 2 = false from beq_f hc] at hb
        exact .inr fun h => by rw [show Nat.beq (Nat.land (mGet mk j) HM) M = true from beq_t h] at hb; cases hb
    | true =>
      rw [hb] at e
      have hc : clsOf E o.op ≠ 2 := fun hc => by rw [show Nat.beq (clsOf E o.op) 2 = true from beq_t hc] at hb; cases hb
      simp only [cond_true] at e
      obtain ⟨hn, e⟩ := bif_none e
      simp only [Bool.or_eq_false_iff] at hn
      obtain ⟨hn1, hn2⟩ := hn
      have hvn : st.vals.get j = none := by cases hq : st.vals.get j with
        | none => rfl
        | some _ => rw [hq] at hn2; cases hn2
      have hfr : FrOk ops fr0 st.vals (predsOf o) (frFor ops st.vals (predsOf o) fr0) := by
        have := frFor_ok (ops := ops) (fr0 := fr0) (vals := st.vals) (ps := predsOf o) (qs := []) (fr := fr0) ⟨rfl, rfl, fun _ _ h => .inl h⟩
        simpa using this
      have hset : ∀ u, (∀ p v, st.vals.get p = some v → (st.vals.set j u).get p = some v) := fun u p v hp => by
        rw [PT.get_set, if_neg (fun h => by subst h; rw [hvn] at hp; cases hp)]; exact hp
      have hset' : ∀ u p, p ≠ j → (st.vals.set j u).get p = st.vals.get p := fun u p hp => PT.get_set_ne _ _ _ _ hp
      split at e
      · rename_i hw
        refine (evP_spec e).cons (e := ⟨j, o, frFor ops st.vals (predsOf o) fr0, .skip⟩) hn1 hvn rfl (hset' _) ⟨hc, hfr.mono (hset _) (fun _ h => h), hw, PT.get_set_same _ _ _⟩
      · rename_i hw
        cases h0 : Nat.beq (clsOf E o.op) 0 with
        | true =>
          rw [h0] at e
          simp only [cond_true] at e
          split at e
          · rename_i v hv
            exact (evP_spec e).cons (e := ⟨j, o, frFor ops st.vals (predsOf o) fr0, .val v⟩) hn1 hvn rfl (hset' _) ⟨hc, hfr.mono (hset _) (fun _ h => h), Nat.eq_of_beq_eq_true h0, hw, PT.get_set_same _ _ _, hv⟩
          · cases e
        | false =>
          rw [h0] at e
          simp only [cond_false] at e
          split at e
          · rename_i k cs hr
            have hc1 : clsOf E o.op = 1 := by
              rcases clsOf_le E o.op with h | h | h
              · rw [show Nat.beq (clsOf E o.op) 0 = true from beq_t h] at h0; cases h0
              · exact h
              · exact absurd h hc
            exact (evP_spec e).cons (st1 := { vals := st.vals, ents := ⟨j, o, frFor ops st.vals (predsOf o) fr0, .row k cs⟩ :: st.ents }) (e := ⟨j, o, frFor ops st.vals (predsOf o) fr0, .row k cs⟩) hn1 hvn rfl (fun _ _ => rfl) ⟨hc, hfr, hw, hr, hc1, hvn⟩
          · cases e
      · cases e

theorem opnd_noG {fr : AFr} {x : Operand} (e : noG x = true) (h h' : AHeap) : fr.opnd h x = fr.opnd h' x := by
  cases x <;> first | rfl | cases e
theorem heapFree_opV {E : Env} {fr : AFr} {op : Op} (e : heapFree op = true) (h h' : AHeap) : E.opV fr h op = E.opV fr h' op := by
  unfold heapFree at e
  split at e
  · simp only [Env.opV]; rw [opnd_noG e h h']
  · simp only [Bool.and_eq_true] at e
    simp only [Env.opV]; rw [opnd_noG e.1 h h', opnd_noG e.2 h h']
  · simp only [Env.opV]; rw [opnd_noG e h h']
  · simp only [Env.opV]; rw [opnd_noG e h h']
  · simp only [Env.opV]; rw [opnd_noG e h h']
  · simp only [Env.opV]; rw [opnd_noG e h h']
  · simp only [Bool.and_eq_true] at e
    simp only [Env.opV]; rw [opnd_noG e.1 h h', opnd_noG e.2 h h']
  · simp only [Bool.and_eq_true] at e
    simp only [Env.opV]; rw [opnd_noG e.1 h h', opnd_noG e.2 h h']
  · simp only [Env.opV]; rw [opnd_noG e h h']
  · cases e

theorem recheck_spec {E : Env} {mk : PT Nat} {x : Nat} {h : AHeap} : ∀ {l : List Ent}, recheck E mk x h l = true → ∀ e ∈ l, ∀ v, e.res = .val v → ((mGet mk x).testBit e.j = true ∨ E.opV e.fr h e.o.op = some v) ∨ heapFree e.o.op = true
  | e :: l, hr, e', he', v, hres => by
    unfold recheck at hr
    obtain ⟨h1, h2⟩ := bif_true hr
    rcases List.mem_cons.1 he' with rfl | he'
    · rw [hres] at h1
      simp only at h1
      cases hb : Nat.testBit (mGet mk x) e'.j with
      | true => exact .inl (.inl rfl)
      | false =>
        cases hf : heapFree e'.o.op with
        | true => exact .inr rfl
        | false =>
        rw [hb, hf] at h1
        simp only [Bool.or_self, cond_false] at h1
        split at h1
        · rename_i v' hv
          exact .inl (.inr (by rw [hv, eqV_eq _ _ _ h1]))
        · cases h1
    · exact recheck_spec h2 e' he' v hres
  | [], _, _, h, _, _ => by cases h

section
variable {E : Env} {ops : Array Oper} {mk : PT Nat} {fr0 : AFr} {γ0 : Gam} {h0 : AHeap} {w0 : World} {listed : Array Bool} {γ : Gam} {a : Act} {w : World}
  {xs : List (Nat × Oper)} {M : Nat} {st st' : DSt} {h : AHeap} {pc : Nat → Nat}

/-- A stage's evaluation. -/
theorem Core.stage (_s : Stat E ops mk fr0) (v : Core E ops mk fr0 γ0 h0 w0 listed γ a w xs st h pc) (p : PSpec E ops mk (maskL 0 (heapL E ops)) fr0 h M (idxL 0 ops.toList) st st') :
    Core E ops mk fr0 γ0 h0 w0 listed γ a w xs st' h pc := by
  have hidx : ∀ {j : Nat} {o : Oper}, (j, o) ∈ idxL 0 ops.toList → ops[j]? = some o := fun hm => by simpa using (mem_idxL.1 hm).2
  have hnl : ∀ {j : Nat} {o : Oper}, ops[j]? = some o → clsOf E o.op ≠ 2 → hasEnt j st.ents = false → ¬ Lst listed j := by
    intro j o ho hc hn hl
    obtain ⟨e, he, hj⟩ := v.lsE j o ho hc hl
    rw [hasEnt_iff.2 ⟨e, he, hj⟩] at hn; cases hn
  refine ⟨v.sz, v.cl, v.rh, v.rf, v.fr, ?_, v.xX, ?_, p.uni v.uni, ?_, ?_⟩
  · intro q o u ho hu hl
    rcases p.vnew q with hq | ⟨hq, _, e, he, hj⟩
    · rw [hq] at hu; exact v.vl q o u ho hu hl
    · rcases p.new e he with hm | ⟨hm, _, _, hN⟩
      · rw [hasEnt_iff.2 ⟨e, hm, hj⟩] at hq; cases hq
      · have := hidx hm
        rw [hj] at this
        exact absurd hl (hnl this hN.1 hq)
  · intro e he
    rcases p.new e he with hm | ⟨hm, hn, hvn, hN⟩
    · obtain ⟨g1, g2, g3, g4⟩ := v.ent e hm
      refine ⟨g1, g2, g3.mono p.vals (fun _ h => h), ?_⟩
      have hsame : st'.vals.get e.j = st.vals.get e.j := by
        rcases p.vnew e.j with h | ⟨h, _⟩
        · exact h
        · rw [hasEnt_iff.2 ⟨e, hm, rfl⟩] at h; cases h
      unfold EntF at g4 ⊢
      cases hr : e.res <;> rw [hr] at g4 <;> simp only [hsame] <;> exact g4
    · have ho := hidx hm
      refine ⟨ho, hN.1, hN.2.1, ?_⟩
      have h3 := hN.2.2
      have hun := hnl ho hN.1 hn
      unfold EntF
      cases hr : e.res with
      | val x => rw [hr] at h3; exact ⟨h3.1, h3.2.1, h3.2.2.1, fun _ => h3.2.2.2⟩
      | skip => rw [hr] at h3; exact h3
      | row k cs => rw [hr] at h3; exact ⟨h3.1, h3.2.1, h3.2.2.1, fun _ => h3.2.2.2, fun hl => absurd hl hun⟩
  · intro j o ho hc hl
    obtain ⟨e, he, hj⟩ := v.lsE j o ho hc hl
    exact ⟨e, p.ents e he, hj⟩
  · intro e1 m1 e2 m2 r1 r2 l1 l2 x1 x2 hpc
    have hin : ∀ e ∈ st'.ents, Lst listed e.j → e ∈ st.ents := by
      intro e he hl
      rcases p.new e he with hm | ⟨hm, hn, _, hN⟩
      · exact hm
      · exact absurd hl (hnl (hidx hm) hN.1 hn)
    exact v.pinj e1 (hin e1 m1 l1) e2 (hin e2 m2 l2) r1 r2 l1 l2 x1 x2 hpc
end
end
end Go.Abs

/- Regions that draw their order: sound. -/
namespace Go.Abs
noncomputable section

section
variable {P : Program} {E : Env} {ops : Array Oper} {mk : PT Nat} {fr0 : AFr} {γ0 : Gam} {h0 : AHeap} {w0 : World} {listed : Array Bool} {γ : Gam} {a : Act} {w : World}
  {xs : List (Nat × Oper)} {M : Nat} {st st' : DSt} {h : AHeap} {pc : Nat → Nat}

theorem idxL_lt : ∀ {l : List Oper} {i : Nat} {x : Nat × Oper}, x ∈ idxL i l → i ≤ x.1
  | _, _, (_, _), h => (mem_idxL.1 h).1
theorem idxL_pw : ∀ (l : List Oper) (i : Nat), (idxL i l).Pairwise fun x y => x.1 ≠ y.1
  | [], _ => .nil
  | o :: l, i => by
    rw [idxL]
    refine .cons (fun y hy => ?_) (idxL_pw l (Nat.succ i))
    have := idxL_lt hy
    show i ≠ y.1
    omega
theorem heapL_once {ys : List (Nat × Oper)} {x : Nat × Oper} (e : heapL E ops = ys ++ x :: xs) : ∀ y ∈ xs, y.1 ≠ x.1 := by
  have h := (idxL_pw ops.toList 0).filter (isHeap E)
  rw [show (idxL 0 ops.toList).filter (isHeap E) = heapL E ops from rfl, e, List.pairwise_append] at h
  obtain ⟨_, h, _⟩ := h
  rw [List.pairwise_cons] at h
  exact fun y hy => Ne.symm (h.1 y hy)

theorem PendOk.step {γ' : Gam} {h' : AHeap} {w' : World} {c : Nat} {o : Oper} {k : Mk} {cs : List Value} (p : PendOk γ a w w0 c o k cs) (f : Fr γ h w γ' h' w') : PendOk γ' a w' w0 c o k cs := by
  obtain ⟨cells, el, hc, hv⟩ := p.obj
  have hlt : c < w.heap.size := (Array.getElem?_eq_some_iff.1 hc).1
  have hp : Prot γ h c := fun b d e => absurd e (p.un b d)
  obtain ⟨_, he⟩ := f.prot c hlt hp
  refine ⟨p.lo, fun b d e => ?_, ⟨cells, el, by rw [he]; exact hc, hv.mono f.le⟩, p.tm⟩
  cases hb : γ b with
  | some x =>
    have := f.le b x hb
    rw [e, Option.some.injEq] at this; subst this
    exact p.un b d hb
  | none =>
    rcases (f.new b c d hb e).2 with h | h
    · omega
    · exact h hp

/-- An operation that acts has acted. -/
theorem Core.act (s : Stat E ops mk fr0) {x : Nat} {o : Oper} (v : Core E ops mk fr0 γ0 h0 w0 listed γ a w ((x, o) :: xs) st h pc) (p : Pre E ops mk listed ((x, o) :: xs) M st) (hc : clsOf E o.op = 2) (hr : ∀ p ∈ predsOf o, Lst listed p)
    (hvx : st.vals.get x = none) {γ' : Gam} {h' : AHeap} {w' : World} {u u' : Value} (rh : RelH γ' h' w') (hv : VR γ' u u') (f : Fr γ h w γ' h' w')
    (hre : ∀ e ∈ st.ents, ∀ y, e.res = .val y → ¬ Lst listed e.j → (mGet mk x).testBit e.j = true ∨ E.opV e.fr h' e.o.op = some y) :
    Core E ops mk fr0 γ0 h0 w0 (listed.setIfInBounds x true) γ' (a.put o.dst u') w' xs { st with vals := st.vals.set x u } h' pc := by
  obtain ⟨ys, hys, _⟩ := p
  have hxo := heapL_at (E := E) (ops := ops) (x := (x, o)) (by rw [hys]; simp)
  have ho : ops[x]? = some o := hxo.1
  have hlt : x < listed.size := by rw [v.sz]; exact (Array.getElem?_eq_some_iff.1 ho).1
  have honce := heapL_once hys
  have hinx : ∀ {j : Nat}, inX xs j → inX ((x, o) :: xs) j ∧ j ≠ x := fun ⟨o', hm⟩ => ⟨⟨o', List.mem_cons_of_mem _ hm⟩, honce _ hm⟩
  have hset : ∀ p v, st.vals.get p = some v → (st.vals.set x u).get p = some v := fun p v hp => by
    rw [PT.get_set, if_neg (fun h => by subst h; rw [hvx] at hp; cases hp)]; exact hp
  have hej : ∀ e ∈ st.ents, e.j ≠ x := by
    intro e he hj
    obtain ⟨g1, g2, _⟩ := v.ent e he
    rw [hj, ho, Option.some.injEq] at g1
    rw [g1] at hc; exact g2 hc
  refine ⟨by simpa using v.sz, ?_, rh, rf_put s ho (v.rf.mono f.le) u', v.fr.trans f, ?_, ?_, ?_, v.uni, ?_, ?_⟩
  · intro j oj hj hl p hp
    rcases hl.of_set with rfl | hl
    · rw [ho, Option.some.injEq] at hj; subst hj; exact (hr p hp).set_mono
    · exact (v.cl j oj hj hl p hp).set_mono
  · intro p op y hp hy hl
    by_cases hpx : p = x
    · subst hpx
      rw [ho, Option.some.injEq] at hp; subst hp
      rw [PT.get_set_same, Option.some.injEq] at hy; subst hy
      exact TmO.put_same hv
    · rw [PT.get_set_ne _ _ _ _ hpx] at hy
      exact ((v.vl p op y hp hy (hl.of_set.resolve_left hpx)).mono f.le).put_ne s ho hp hpx
  · intro y hy hcy hl
    rcases hl.of_set with h | h
    · exact honce y hy h
    · exact v.xX y (List.mem_cons_of_mem _ hy) hcy h
  · intro e he
    obtain ⟨g1, g2, g3, g4⟩ := v.ent e he
    have hne := hej e he
    refine ⟨g1, g2, g3.mono hset (fun _ h => h), ?_⟩
    have hsame : (st.vals.set x u).get e.j = st.vals.get e.j := PT.get_set_ne _ _ _ _ hne
    unfold EntF at g4 ⊢
    cases hres : e.res with
    | val y =>
      rw [hres] at g4
      refine ⟨g4.1, g4.2.1, by rw [hsame]; exact g4.2.2.1, fun hnl => ?_⟩
      have hnl' : ¬ Lst listed e.j := fun h => hnl h.set_mono
      rcases hre e he y hres hnl' with h | h
      · exact absurd (mGet_dir s ho v.cl hr h) hnl'
      · exact h
    | skip => rw [hres] at g4; exact ⟨g4.1, by rw [hsame]; exact g4.2⟩
    | row k cs =>
      rw [hres] at g4
      refine ⟨g4.1, by rw [rowOf_ng f.ng]; exact g4.2.1, g4.2.2.1, fun hx => by rw [hsame]; exact g4.2.2.2.1 (hinx hx).1, fun hl hx => ?_⟩
      exact (pend_put s ho g1 hne (g4.2.2.2.2 (hl.of_set.resolve_left hne) (hinx hx).1) u').step f
  · intro j oj hj hcj hl
    rcases hl.of_set with rfl | hl
    · rw [ho, Option.some.injEq] at hj; subst hj; exact absurd hc hcj
    · exact v.lsE j oj hj hcj hl
  · intro e1 h1 e2 h2 r1 r2 l1 l2 x1 x2 hpc
    exact v.pinj e1 h1 e2 h2 r1 r2 (l1.of_set.resolve_left (hej e1 h1)) (l2.of_set.resolve_left (hej e2 h2)) (hinx x1).1 (hinx x2).1 hpc

theorem Fr.adopt (f : Fr γ0 h0 w0 γ h w) (r : RelH γ h w) {c : Nat} (hc : w0.heap.size ≤ c) (cs : List Value) : Fr γ0 h0 w0 (γ.put h.next c 0) (h.row cs) w := by
  have hle := Gam.le_put c 0 r.fresh
  refine ⟨Gam.le_trans f.le hle, Nat.le_trans f.next (Nat.le_succ _), f.ng, f.os, f.tape, f.output, f.size, ?_, ?_, ?_⟩
  · intro b xs hb
    have := f.ro b xs hb
    rw [AHeap.row, AHeap.get_alloc, if_neg (by have := r.below this; omega)]; exact this
  · intro c0 hc0 hp
    obtain ⟨p1, e1⟩ := f.prot c0 hc0 hp
    refine ⟨fun b d e => ?_, e1⟩
    by_cases hb : b = h.next
    · subst hb
      rw [Gam.put_same, Option.some.injEq, Prod.mk.injEq] at e
      omega
    · rw [Gam.put_ne γ _ _ hb] at e
      obtain ⟨xs, hx⟩ := p1 b d e
      exact ⟨xs, by rw [AHeap.row, AHeap.get_alloc, if_neg hb]; exact hx⟩
  · intro b c1 d e e'
    by_cases hb : b = h.next
    · subst hb
      rw [Gam.put_same, Option.some.injEq, Prod.mk.injEq] at e'
      exact ⟨f.next, .inl (by omega)⟩
    · rw [Gam.put_ne γ _ _ hb] at e'
      exact f.new b c1 d e e'

/-- A row that lies there gets its name. -/
theorem Core.adopt (s : Stat E ops mk fr0) {x : Nat} {o : Oper} (v : Core E ops mk fr0 γ0 h0 w0 listed γ a w ((x, o) :: xs) st h pc) (p : Pre E ops mk listed ((x, o) :: xs) M st) (hl : Lst listed x) {e : Ent} (he : e ∈ st.ents) (hex : e.j = x) {k : Mk} {cs : List Value} (hres : e.res = .row k cs)
    (hre : ∀ e ∈ st.ents, ∀ y, e.res = .val y → ¬ Lst listed e.j → (mGet mk x).testBit e.j = true ∨ E.opV e.fr (h.row cs) e.o.op = some y) :
    ∃ γ', γ.le γ' ∧ Core E ops mk fr0 γ0 h0 w0 listed γ' a w xs { st with vals := st.vals.set x (k.val h.next) } (h.row cs) pc := by
  obtain ⟨ys, hys, _⟩ := p
  have hxo := heapL_at (E := E) (ops := ops) (x := (x, o)) (by rw [hys]; simp)
  have ho : ops[x]? = some o := hxo.1
  have honce := heapL_once hys
  have hinx : ∀ {j : Nat}, inX xs j → inX ((x, o) :: xs) j ∧ j ≠ x := fun ⟨o', hm⟩ => ⟨⟨o', List.mem_cons_of_mem _ hm⟩, honce _ hm⟩
  have hix : inX ((x, o) :: xs) e.j := ⟨o, by rw [hex]; exact List.mem_cons_self⟩
  have hle' : Lst listed e.j := by rw [hex]; exact hl
  obtain ⟨e1, e2, e3, e4⟩ := v.ent e he
  unfold EntF at e4
  rw [hres] at e4
  obtain ⟨_, _, _, hvx0, hp0⟩ := e4
  have hvx := hvx0 hix
  have hp := hp0 hle' hix
  clear hvx0 hp0
  rw [hex] at hvx e1
  rw [ho, Option.some.injEq] at e1
  obtain ⟨cells, el, hcell, hcv⟩ := hp.obj
  obtain ⟨rh, hle⟩ := v.rh.adopt hcell hp.un hcv
  have hset : ∀ p v, st.vals.get p = some v → (st.vals.set x (k.val h.next)).get p = some v := fun p v hp => by
    rw [PT.get_set, if_neg (fun h => by subst h; rw [hvx] at hp; cases hp)]; exact hp
  refine ⟨_, hle, v.sz, v.cl, rh, v.rf.mono hle, v.fr.adopt v.rh hp.lo cs, ?_, ?_, ?_, v.uni, v.lsE, ?_⟩
  · intro q oq y hq hy hlq
    by_cases hqx : q = x
    · subst hqx
      rw [ho, Option.some.injEq] at hq; subst hq
      rw [PT.get_set_same, Option.some.injEq] at hy; subst hy
      intro d hd hlt
      exact ⟨_, hp.tm d (by rw [← e1]; exact hd) hlt, k.rel (Gam.put_same _ _ _ _)⟩
    · rw [PT.get_set_ne _ _ _ _ hqx] at hy
      exact (v.vl q oq y hq hy hlq).mono hle
  · intro y hy hcy hly; exact v.xX y (List.mem_cons_of_mem _ hy) hcy hly
  · intro e' he'
    obtain ⟨g1, g2, g3, g4⟩ := v.ent e' he'
    refine ⟨g1, g2, g3.mono hset (fun _ h => h), ?_⟩
    unfold EntF at g4 ⊢
    by_cases hj : e'.j = x
    · have := v.uni e' he' e he (by rw [hj, hex])
      subst this
      rw [hres] at g4 ⊢
      exact ⟨g4.1, by rw [rowOf_ng (h := h) (h' := h.row cs) rfl]; exact g4.2.1, g4.2.2.1, fun hx => absurd hj (hinx hx).2, fun _ hx => absurd hj (hinx hx).2⟩
    · have hsame : (st.vals.set x (k.val h.next)).get e'.j = st.vals.get e'.j := PT.get_set_ne _ _ _ _ hj
      cases hres' : e'.res with
      | val y =>
        rw [hres'] at g4
        refine ⟨g4.1, g4.2.1, by rw [hsame]; exact g4.2.2.1, fun hnl => ?_⟩
        rcases hre e' he' y hres' hnl with h | h
        · exact absurd (mGet_dir s ho v.cl (v.cl x o ho hl) h) hnl
        · exact h
      | skip => rw [hres'] at g4; exact ⟨g4.1, by rw [hsame]; exact g4.2⟩
      | row k' cs' =>
        rw [hres'] at g4
        refine ⟨g4.1, by rw [rowOf_ng (h := h) (h' := h.row cs) rfl]; exact g4.2.1, g4.2.2.1, fun hx => by rw [hsame]; exact g4.2.2.2.1 (hinx hx).1, fun hlj hx => ?_⟩
        have hp' := g4.2.2.2.2 hlj (hinx hx).1
        obtain ⟨cells', el', hc', hv'⟩ := hp'.obj
        refine ⟨hp'.lo, fun b d hb => ?_, ⟨cells', el', hc', hv'.mono hle⟩, hp'.tm⟩
        by_cases hbn : b = h.next
        · subst hbn
          rw [Gam.put_same, Option.some.injEq, Prod.mk.injEq] at hb
          exact hj ((v.pinj e' he' e he (by rw [hres']; rfl) (by rw [hres]; rfl) hlj hle' (hinx hx).1 hix hb.1.symm).trans hex)
        · rw [Gam.put_ne γ _ _ hbn] at hb
          exact hp'.un b d hb
  · intro e1 h1 e2 h2 r1 r2 l1 l2 x1 x2 hpc
    exact v.pinj e1 h1 e2 h2 r1 r2 l1 l2 (hinx x1).1 (hinx x2).1 hpc

/-- A row that is not wanted. -/
theorem Core.pass {x : Nat} {o : Oper} (v : Core E ops mk fr0 γ0 h0 w0 listed γ a w ((x, o) :: xs) st h pc) : Core E ops mk fr0 γ0 h0 w0 listed γ a w xs st h pc := by
  have hinx : ∀ {j : Nat}, inX xs j → inX ((x, o) :: xs) j := fun ⟨o', hm⟩ => ⟨o', List.mem_cons_of_mem _ hm⟩
  refine ⟨v.sz, v.cl, v.rh, v.rf, v.fr, v.vl, fun y hy => v.xX y (List.mem_cons_of_mem _ hy), ?_, v.uni, v.lsE, fun e1 h1 e2 h2 r1 r2 l1 l2 x1 x2 => v.pinj e1 h1 e2 h2 r1 r2 l1 l2 (hinx x1) (hinx x2)⟩
  intro e he
  obtain ⟨g1, g2, g3, g4⟩ := v.ent e he
  refine ⟨g1, g2, g3, ?_⟩
  unfold EntF at g4 ⊢
  cases hres : e.res with
  | val y => rw [hres] at g4; exact g4
  | skip => rw [hres] at g4; exact g4
  | row k cs => rw [hres] at g4; exact ⟨g4.1, g4.2.1, g4.2.2.1, fun hx => g4.2.2.2.1 (hinx hx), fun hl hx => g4.2.2.2.2 hl (hinx hx)⟩

theorem Pre.next {x : Nat} {o : Oper} {st1 : DSt} (p : Pre E ops mk listed ((x, o) :: xs) M st) {listed' : Array Bool} (hm : ∀ i, Lst listed i → Lst listed' i) (hl : Lst listed' x) (he : st1.ents = st.ents)
    (q : PSpec E ops mk (maskL 0 (heapL E ops)) fr0 h (Nat.lor M (Nat.pow 2 x)) (idxL 0 ops.toList) st1 st') : Pre E ops mk listed' xs (Nat.lor M (Nat.pow 2 x)) st' := by
  obtain ⟨ys, h1, h2, h3, h4⟩ := p
  refine ⟨ys ++ [(x, o)], by rw [h1]; simp, by rw [maskL_append, ← h2]; rfl, ?_, ?_⟩
  · intro y hy
    rcases List.mem_append.1 hy with hy | hy
    · exact hm _ (h3 y hy)
    · simp at hy; subst hy; exact hl
  · intro j oj hj hc ys' zs' hys hmk
    rcases prefix_cmp hys with ⟨e, he'⟩ | ⟨z, e, he', hz⟩
    · obtain ⟨en, hen, hjn⟩ := h4 j oj hj hc ys' e he' hmk
      exact ⟨en, q.ents en (by rw [he]; exact hen), hjn⟩
    · have : e = [] ∧ zs' = [] ∧ z = (x, o) := by
        simp only [List.cons_append, List.cons.injEq] at hz
        obtain ⟨hz1, hz2⟩ := hz
        have := List.append_eq_nil_iff.1 hz2.symm
        exact ⟨this.1, this.2, hz1.symm⟩
      obtain ⟨rfl, rfl, rfl⟩ := this
      refine q.com j oj hj hc ?_
      rw [hmk, he', maskL_append, ← h2]; rfl
end
end
end Go.Abs

/- Regions that draw their order: the induction; what the evaluator says holds. -/
namespace Go.Abs
noncomputable section

section
variable {P : Program} {E : Env} {call : FuncId → List Value → AHeap → (ARet → AHeap → Bool) → Bool} {K : AExit → AFr → AHeap → Bool} {ops : Array Oper} {mk : PT Nat} {fr0 : AFr} {γ0 : Gam} {h0 : AHeap} {w0 : World} {listed : Array Bool} {a : Act} {w : World} {pc : Nat → Nat}

/-- What was reckoned from no heap is as it was. -/
theorem Core.still {γ : Gam} {st : DSt} {xs : List (Nat × Oper)} {h h' : AHeap} {x : Nat} (v : Core E ops mk fr0 γ0 h0 w0 listed γ a w xs st h pc)
    (hre : ∀ e ∈ st.ents, ∀ y, e.res = .val y → ((mGet mk x).testBit e.j = true ∨ E.opV e.fr h' e.o.op = some y) ∨ heapFree e.o.op = true) :
    ∀ e ∈ st.ents, ∀ y, e.res = .val y → ¬ Lst listed e.j → (mGet mk x).testBit e.j = true ∨ E.opV e.fr h' e.o.op = some y := by
  intro e he y hy hnl
  rcases hre e he y hy with h1 | h1
  · exact h1
  · obtain ⟨_, _, _, g4⟩ := v.ent e he
    unfold EntF at g4
    rw [hy] at g4
    exact .inr ((heapFree_opV h1 h' h).trans (g4.2.2.2 hnl))

theorem adv (s : Stat E ops mk fr0) : ∀ (xs : List (Nat × Oper)) (γ : Gam) (M : Nat) (st : DSt) (h : AHeap), Core E ops mk fr0 γ0 h0 w0 listed γ a w xs st h pc → Pre E ops mk listed xs M st →
    evH E call ops (idxL 0 ops.toList) mk (maskL 0 (heapL E ops)) fr0 K xs M st h = true →
    ∃ γ' xs' M' st' h', Core E ops mk fr0 γ0 h0 w0 listed γ' a w xs' st' h' pc ∧ Pre E ops mk listed xs' M' st' ∧ Nx listed xs' ∧ evH E call ops (idxL 0 ops.toList) mk (maskL 0 (heapL E ops)) fr0 K xs' M' st' h' = true
  | [], γ, M, st, h, v, p, e => ⟨γ, [], M, st, h, v, p, trivial, e⟩
  | (x, o) :: xs, γ, M, st, h, v, p, e => by
    by_cases hl : Lst listed x
    · obtain ⟨ho, hc0⟩ := heapL_at (E := E) (ops := ops) (x := (x, o)) (p.sub _ List.mem_cons_self)
      have hc2 : clsOf E o.op ≠ 2 := fun hc => v.xX (x, o) List.mem_cons_self hc hl
      have hc1 : clsOf E o.op = 1 := by rcases clsOf_le E o.op with h | h | h; exact absurd h hc0; exact h; exact absurd h hc2
      unfold evH at e
      rw [show Nat.beq (clsOf E o.op) 1 = true from beq_t hc1] at e
      simp only [cond_true] at e
      split at e
      · split at e
        · rename_i st' hst
          exact adv s xs γ _ st' h (v.pass.stage s (evP_spec hst)) (p.next (fun _ h => h) hl rfl (evP_spec hst)) e
        · cases e
      · rename_i k cs hres
        obtain ⟨en, hen, hj, hr⟩ := resOf_some hres
        obtain ⟨_, e⟩ := bif_false e
        obtain ⟨hre, e⟩ := bif_true e
        split at e
        · rename_i st' hst
          obtain ⟨γ', _, v'⟩ := v.adopt s p hl hen hj hr (v.still (recheck_spec hre))
          exact adv s xs γ' _ st' _ (v'.stage s (evP_spec hst)) (p.next (st1 := { vals := st.vals.set x (k.val h.next), ents := st.ents }) (fun _ h => h) hl rfl (evP_spec hst)) e
        · cases e
      · cases e
    · exact ⟨γ, (x, o) :: xs, M, st, h, v, p, hl, e⟩

def cntF (l : List Bool) : Nat := l.count false
theorem cntF_set : ∀ (l : List Bool) (i : Nat), l[i]? = some false → cntF (l.set i true) + 1 = cntF l
  | b :: l, 0, h => by simp at h; subst h; simp [cntF]
  | b :: l, i + 1, h => by
    have := cntF_set l i (by simpa using h)
    simp only [cntF, List.set_cons_succ, List.count_cons] at this ⊢
    omega
  | [], i, h => by simp at h
theorem cntF_zero {l : Array Bool} (h : cntF l.toList = 0) {i : Nat} (hi : i < l.size) : Lst l i := by
  unfold cntF at h
  rw [List.count_eq_zero] at h
  have hm : l[i] ∈ l.toList := by simp
  unfold Lst
  simp only [Array.getD_eq_getD_getElem?, Array.getElem?_eq_getElem hi, Option.getD_some]
  cases hb : l[i] with
  | true => rfl
  | false => rw [hb] at hm; exact absurd hm h

theorem all_listed (s : Stat E ops mk fr0) (hs : listed.size = ops.size) (hr : Region.ready .any ops listed = []) : ∀ i, i < ops.size → Lst listed i := by
  intro i
  induction i using Nat.strongRecOn with
  | _ i ih =>
    intro hi
    have ho : ops[i]? = some ops[i] := Array.getElem?_eq_getElem hi
    by_cases hl : Lst listed i
    · exact hl
    · have hd : listed.getD i true = false := by
        unfold Lst at hl
        simp only [Array.getD_eq_getD_getElem?, Array.getElem?_eq_getElem (show i < listed.size by omega), Option.getD_some] at hl ⊢
        simpa using hl
      have : i ∈ Region.ready .any ops listed := mem_ready.2 ⟨hd, ops[i], ho, fun e he hb => by
        obtain ⟨m, _, hm⟩ := s.mask.some_ i _ ho
        have hp := (hm e.on (mem_predsOf.2 ⟨e, he, hb, rfl⟩)).1
        exact ih e.on hp (by omega)⟩
      rw [hr] at this; cases this

theorem lst_of_ready {i : Nat} (hi : i ∈ Region.ready .any ops listed) : ∃ o, ops[i]? = some o ∧ (∀ p ∈ predsOf o, Lst listed p) ∧ ¬ Lst listed i ∧ (listed.size = ops.size → listed.toList[i]? = some false) := by
  obtain ⟨hd, o, ho, hall⟩ := mem_ready.1 hi
  refine ⟨o, ho, fun p hp => ?_, ?_, ?_⟩
  · obtain ⟨e, he, hb, rfl⟩ := mem_predsOf.1 hp
    exact hall e he hb
  · intro hl
    unfold Lst at hl
    simp only [Array.getD_eq_getD_getElem?] at hd hl
    cases hq : listed[i]? with
    | none => rw [hq] at hd; cases hd
    | some b => rw [hq] at hd hl; simp at hd hl; rw [hd] at hl; cases hl
  · intro hs
    simp only [Array.getD_eq_getD_getElem?] at hd
    cases hq : listed[i]? with
    | none => rw [hq] at hd; cases hd
    | some b => rw [hq] at hd; simp at hd; subst hd; simpa using hq

theorem draw_any (ok : EnvOk P E) (hcall : CallOk P call) (s : Stat E ops mk fr0) {rc : Option Nat} {Qc : Exit → Act → World → Prop}
    (hQ : ∀ fr' h' γ' a' w', K .normal fr' h' = true → RelH γ' h' w' → RelF γ' fr' a' → Fr γ0 h0 w0 γ' h' w' → Qc .normal a' w') :
    ∀ (fuel : Nat) (listed : Array Bool) (γ : Gam) (a : Act) (w : World) (xs : List (Nat × Oper)) (M : Nat) (st : DSt) (h : AHeap) (pc : Nat → Nat), Core E ops mk fr0 γ0 h0 w0 listed γ a w xs st h pc → Pre E ops mk listed xs M st → Nx listed xs →
      evH E call ops (idxL 0 ops.toList) mk (maskL 0 (heapL E ops)) fr0 K xs M st h = true → cntF listed.toList ≤ fuel → wpAnyIn (fence rc) 0 P .any ops Qc fuel listed a w := by
  have hend : ∀ (listed : Array Bool) (γ : Gam) (a : Act) (w : World) (xs : List (Nat × Oper)) (M : Nat) (st : DSt) (h : AHeap) (pc : Nat → Nat), Core E ops mk fr0 γ0 h0 w0 listed γ a w xs st h pc → Pre E ops mk listed xs M st → Nx listed xs →
      evH E call ops (idxL 0 ops.toList) mk (maskL 0 (heapL E ops)) fr0 K xs M st h = true → (∀ i, i < ops.size → Lst listed i) → Qc .normal a w := by
    intro listed γ a w xs M st h pc v p nx e hall
    cases xs with
    | cons x xs =>
      have := (heapL_at (E := E) (ops := ops) (x := x) (p.sub _ List.mem_cons_self)).1
      exact absurd (hall x.1 (Array.getElem?_eq_some_iff.1 this).1) nx
    | nil =>
      unfold evH at e
      refine hQ _ h γ a w e v.rh ?_ v.fr
      have hfr : FrOk ops fr0 st.vals (List.range ops.size) (frFor ops st.vals (List.range ops.size) fr0) := by
        have := frFor_ok (ops := ops) (fr0 := fr0) (vals := st.vals) (ps := List.range ops.size) (qs := []) (fr := fr0) ⟨rfl, rfl, fun _ _ h => .inl h⟩
        simpa using this
      exact frFor_rel hfr v.rf fun q o u _ ho hu => v.vl q o u ho hu (hall q (Array.getElem?_eq_some_iff.1 ho).1)
  intro fuel
  induction fuel with
  | zero =>
    intro listed γ a w xs M st h pc v p nx e hc
    have hall : ∀ i, i < ops.size → Lst listed i := fun i hi => cntF_zero (by omega) (by rw [v.sz]; exact hi)
    refine ⟨?_, hend _ _ _ _ _ _ _ _ _ v p nx e hall⟩
    cases hr : Region.ready .any ops listed with
    | nil => rfl
    | cons i l =>
      obtain ⟨o, ho, _, hn, _⟩ := lst_of_ready (ops := ops) (listed := listed) (i := i) (by rw [hr]; exact List.mem_cons_self)
      exact absurd (hall i (Array.getElem?_eq_some_iff.1 ho).1) hn
  | succ fuel ih =>
    intro listed γ a w xs M st h pc v p nx e hc
    refine ⟨fun hr => hend _ _ _ _ _ _ _ _ _ v p nx e (all_listed s v.sz hr), fun i hi => ?_⟩
    obtain ⟨o, ho, hr, hn, hf⟩ := lst_of_ready hi
    have hc' : cntF (listed.setIfInBounds i true).toList ≤ fuel := by
      have := cntF_set _ _ (hf v.sz)
      rw [Array.toList_setIfInBounds]; omega
    have hlt : i < listed.size := by rw [v.sz]; exact (Array.getElem?_eq_some_iff.1 ho).1
    have hgo : ∀ γ' a' w' xs' M' st' h' pc', Core E ops mk fr0 γ0 h0 w0 (listed.setIfInBounds i true) γ' a' w' xs' st' h' pc' → Pre E ops mk (listed.setIfInBounds i true) xs' M' st' →
        evH E call ops (idxL 0 ops.toList) mk (maskL 0 (heapL E ops)) fr0 K xs' M' st' h' = true → wpAnyIn (fence rc) 0 P .any ops Qc fuel (listed.setIfInBounds i true) a' w' := by
      intro γ' a' w' xs' M' st' h' pc' v' p' e'
      obtain ⟨γ2, xs2, M2, st2, h2, v2, p2, n2, e2⟩ := adv s xs' γ' M' st' h' v' p' e'
      exact ih _ γ2 a' w' xs2 M2 st2 h2 pc' v2 p2 n2 e2 hc'
    unfold wpOpIn
    simp only [ho]
    by_cases hc2 : clsOf E o.op = 2
    · obtain ⟨zs, rfl⟩ := v.head s p nx ho hc2 hr hn
      unfold evH at e
      rw [show Nat.beq (clsOf E o.op) 1 = false from beq_f (by rw [hc2]; decide)] at e
      simp only [cond_false] at e
      obtain ⟨hvx', e⟩ := bif_false e
      have hvx : st.vals.get i = none := by cases hq : st.vals.get i with
        | none => rfl
        | some _ => rw [hq] at hvx'; cases hvx'
      have hfr : FrOk ops fr0 st.vals (predsOf o) (frFor ops st.vals (predsOf o) fr0) := by
        have := frFor_ok (ops := ops) (fr0 := fr0) (vals := st.vals) (ps := predsOf o) (qs := []) (fr := fr0) ⟨rfl, rfl, fun _ _ h => .inl h⟩
        simpa using this
      have hrf : RelF γ (frFor ops st.vals (predsOf o) fr0) a := frFor_rel hfr v.rf fun q oq u hq hoq hu => v.vl q oq u hoq hu (hr q hq)
      split at e
      · rename_i hw
        rw [hrf.wanted hw]
        refine ⟨about_wide rc o w a, ?_⟩
        split at e
        · rename_i st' hst
          have v1 := v.act s p hc2 hr hvx v.rh (u := undef) (u' := undef) (.tuple .nil) (Fr.refl γ h w) (fun en hen y hy hnl => by
            obtain ⟨_, _, _, g4⟩ := v.ent en hen
            unfold EntF at g4
            rw [hy] at g4
            exact .inr (g4.2.2.2 hnl))
          exact hgo γ _ w zs _ st' h pc (v1.stage s (evP_spec hst)) (p.next (st1 := { vals := st.vals.set i undef, ents := st.ents }) (fun _ h => h.set_mono) (Lst.set_same hlt) rfl (evP_spec hst)) e
        · cases e
      · rename_i hw
        rw [hrf.wanted hw, if_pos rfl]
        refine evX_sound ok hcall e v.rh hrf fun u u' h' w' γ' hk rh hv hf => ?_
        obtain ⟨hre, hk⟩ := bif_true hk
        split at hk
        · rename_i st' hst
          have v1 := v.act s p hc2 hr hvx rh hv hf (v.still (recheck_spec hre))
          exact hgo γ' _ w' zs _ st' h' pc (v1.stage s (evP_spec hst)) (p.next (st1 := { vals := st.vals.set i u, ents := st.ents }) (fun _ h => h.set_mono) (Lst.set_same hlt) rfl (evP_spec hst)) hk
        · cases hk
      · cases e
    · obtain ⟨en, hen, hj⟩ := v.has s p nx ho hc2 hr
      obtain ⟨g1, g2, g3, g4⟩ := v.ent en hen
      rw [hj, ho, Option.some.injEq] at g1
      have hrf : RelF γ en.fr a := frFor_rel g3 v.rf fun q oq u hq hoq hu => v.vl q oq u hoq hu (hr q (by rw [g1]; exact hq))
      unfold EntF at g4
      cases hres : en.res with
      | val u =>
        rw [hres] at g4
        obtain ⟨_, hw, hu, hev⟩ := g4
        rw [← g1] at hw hev
        rw [hj] at hu hev
        rw [hrf.wanted hw, if_pos rfl]
        refine ⟨about_wide rc o w a, ?_⟩
        have hd := opV_notDefer (hev hn)
        rw [Oper.semAt_eq _ _ _ (by intro c hcc; simp [isDefer, hcc] at hd)]
        obtain ⟨u', hr', hvr⟩ := opV_ok ok (hev hn) γ a w v.rh hrf
        rw [hr']
        exact hgo γ _ w xs M st h pc (v.put s p.sub ho hn hr hen hj (by rw [hres]; rfl) hu hvr) (p.set i) e
      | skip =>
        rw [hres] at g4
        obtain ⟨hw, hu⟩ := g4
        rw [← g1] at hw
        rw [hj] at hu
        rw [hrf.wanted hw]
        exact ⟨about_wide rc o w a, hgo γ _ w xs M st h pc (v.put s p.sub ho hn hr hen hj (by rw [hres]; rfl) hu (.tuple .nil)) (p.set i) e⟩
      | row k cs =>
        rw [hres] at g4
        obtain ⟨hw, hrow, hc1, _, _⟩ := g4
        rw [← g1] at hw hrow
        rw [hrf.wanted hw, if_pos rfl]
        refine ⟨about_wide rc o w a, ?_⟩
        rw [Oper.semAt_eq _ _ _ (by intro c hcc; rw [hcc] at hrow; cases hrow)]
        obtain ⟨cells, el, hrun, hcv⟩ := rowOf_ok ok hrow v.rh hrf
        rw [hrun]
        have hin : ∀ x ∈ heapL E ops, Lst listed x.1 ∨ x ∈ xs := by
          obtain ⟨ys, h1, _, h3, _⟩ := p
          intro x hx
          rw [h1] at hx
          exact (List.mem_append.1 hx).imp (h3 x) id
        exact hgo γ _ _ xs M st h _ (v.row s p.sub hin ho hn hr hen hj hres hcv) (p.set i) e

theorem delDsts_get : ∀ (l : List (Nat × Oper)) (t : PT Value) (d : Nat), (delDsts l t).get d = if ∃ x ∈ l, x.2.dst = some d then none else t.get d
  | [], t, d => by simp [delDsts]
  | (i, o) :: l, t, d => by
    have hex : (∃ x ∈ (i, o) :: l, x.2.dst = some d) ↔ (o.dst = some d ∨ ∃ x ∈ l, x.2.dst = some d) := by
      constructor
      · rintro ⟨x, hx, hd⟩
        rcases List.mem_cons.1 hx with rfl | hx
        · exact .inl hd
        · exact .inr ⟨x, hx, hd⟩
      · rintro (hd | ⟨x, hx, hd⟩)
        · exact ⟨(i, o), List.mem_cons_self, hd⟩
        · exact ⟨x, List.mem_cons_of_mem _ hx, hd⟩
    simp only [hex]
    unfold delDsts
    by_cases hr : ∃ x ∈ l, x.2.dst = some d
    · rw [if_pos (.inr hr)]
      cases hd : o.dst <;> simp only <;> rw [delDsts_get l, if_pos hr]
    · cases hd : o.dst with
      | none =>
        simp only
        rw [delDsts_get l, if_neg hr, if_neg]
        rintro (h | h)
        · cases h
        · exact hr h
      | some d' =>
        simp only
        rw [delDsts_get l, if_neg hr, PT.get_del]
        by_cases h : d = d'
        · subst h; rw [if_pos rfl, if_pos (.inl rfl)]
        · rw [if_neg h, if_neg]
          rintro (h' | h')
          · exact h (by simpa using h'.symm)
          · exact hr h'

theorem evDraw_sound (ok : EnvOk P E) (hcall : CallOk P call) (hm : P.follows .mixedOrders = true) {rd : Option Nat} {id : Nat} {fr : AFr} {h : AHeap} (e : evDraw E call ops fr h K = true) :
    SW P rd (.region id ops true) fr h (fun x fr' h' => K x fr' h' = true) := by
  unfold evDraw at e
  split at e
  · rename_i mk hmk
    obtain ⟨hst, e⟩ := bif_true e
    simp only [Bool.and_eq_true] at hst
    obtain ⟨⟨h1, h2⟩, h3⟩ := hst
    split at e
    · rename_i st hp
      have hat : ∀ {k : Nat} {o : Oper}, ops[k]? = some o → ops.toList[k]? = some o := fun h => by simpa using h
      have s : Stat E ops mk { fr with tmps := delDsts (idxL 0 ops.toList) fr.tmps } := by
        refine ⟨masks_ok hmk, fun k k' o o' d hk hk' ho ho' => (okD_spec h1).2 k k' o o' d (hat hk) (hat hk') ho ho', h2, h3, fun k o d hk ho => ?_⟩
        show (delDsts (idxL 0 ops.toList) fr.tmps).get d = none
        rw [delDsts_get, if_pos ⟨(k, o), mem_idx hk, ho⟩]
      intro γ a w rc Qc r1 r2 r3 k
      refine wpIn_region_any hm ?_
      have hw : ({ w with drawn := w.drawn + 1 } : World) = w.drew := rfl
      rw [hw]
      have hl0 : ∀ i, ¬ Lst (Array.replicate ops.size false) i := by
        intro i hi
        unfold Lst at hi
        simp only [Array.getD_eq_getD_getElem?, Array.getElem?_replicate] at hi
        split at hi <;> cases hi
      have rf0 : RelF γ { fr with tmps := delDsts (idxL 0 ops.toList) fr.tmps } a := by
        refine ⟨⟨r2.tm.size, fun t v hv => ?_⟩, r2.df⟩
        have hv : (delDsts (idxL 0 ops.toList) fr.tmps).get t = some v := hv
        rw [delDsts_get] at hv
        split at hv
        · cases hv
        · exact r2.tm.at_ t v hv
      have v0 : Core E ops mk { fr with tmps := delDsts (idxL 0 ops.toList) fr.tmps } γ h w (Array.replicate ops.size false) γ a w.drew (heapL E ops) ⟨.leaf, []⟩ h (fun _ => 0) :=
        ⟨by simp, (fun j _ _ hl => absurd hl (hl0 j)), r1.drew, rf0, Fr.drew γ h w, (fun _ _ _ _ hv => by rw [PT.get_leaf] at hv; cases hv), (fun x _ _ => hl0 x.1), (fun _ he => by cases he), (fun _ he => by cases he), (fun j _ _ _ hl => absurd hl (hl0 j)), (fun _ he => by cases he)⟩
      have ps := evP_spec hp
      have v1 := v0.stage s ps
      have p1 : Pre E ops mk (Array.replicate ops.size false) (heapL E ops) 0 st := by
        refine ⟨[], rfl, rfl, fun y hy => (by cases hy), fun j o hj hc ys' zs' hys hmk' => ?_⟩
        have : ys' = [] := (List.append_eq_nil_iff.1 hys.symm).1
        subst this
        exact ps.com j o hj hc hmk'
      have nx : Nx (Array.replicate ops.size false) (heapL E ops) := by
        cases heapL E ops with
        | nil => trivial
        | cons x l => exact hl0 x.1
      refine draw_any (γ0 := γ) (h0 := h) (w0 := w) ok hcall s ?_ ops.size _ γ a w.drew _ 0 st h _ v1 p1 nx e ?_
      · intro fr' h' γ' a' w' hk rh rf hf
        exact k _ _ _ ⟨.normal, fr', h', γ', hk, rh, rf, trivial, hf⟩
      · simp [cntF]
    · cases e
  · cases e
end
end
end Go.Abs

/- Code evaluated. -/
namespace Go.Abs
noncomputable section

/-- What lies lower: calls, deferred calls, and code that is kept in a loop's object. -/
structure Low where
  call : FuncId → List Value → AHeap → (ARet → AHeap → Bool) → Bool
  dcall : FuncId → List Value → AHeap → (AHeap → Bool) → Bool
  code : Option Nat → Code → AFr → AHeap → (AExit → AFr → AHeap → Bool) → Bool
  draw : Array Oper → AFr → AHeap → (AExit → AFr → AHeap → Bool) → Bool
  /-- A loop, by its body's evaluator. -/
  loop : (AFr → AHeap → (AExit → AFr → AHeap → Bool) → Bool) → Option Nat → Code → AFr → AHeap → (AExit → AFr → AHeap → Bool) → Bool

structure LowOk (P : Program) (L : Low) : Prop where
  call : CallOk P L.call
  dcall : ∀ f as h K, L.dcall f as h K = true → SD P f as h (fun h' => K h' = true)
  code : ∀ rd c fr h K, L.code rd c fr h K = true → SW P rd c fr h (fun x fr' h' => K x fr' h' = true)
  draw : ∀ rd id ops fr h K, L.draw ops fr h K = true → SW P rd (.region id ops true) fr h (fun x fr' h' => K x fr' h' = true)
  loop : ∀ body rd c fr h K, (∀ fr h K, body fr h K = true → SW P rd c fr h (fun x fr' h' => K x fr' h' = true)) → L.loop body rd c fr h K = true → SW P rd (.loop c) fr h (fun x fr' h' => K x fr' h' = true)

section defs
variable (E : Env) (L : Low)

/-- A round of a loop over a function. -/
def evYield (b : Nat) (vs : List Value) (h : AHeap) (k : Value → AHeap → Bool) : Bool :=
  match h.get b with
  | some (.loop L0) => bif Nat.beq vs.length L0.params.size then
      L.code (some b) L0.assign { tmps := setParams L0.tmps L0.n L0.params.toList vs, n := L0.n, defers := [] } h fun x fr1 h1 => match x with
        | .normal => match h1.get b with
          | some (.loop L1) => match L1.state with
            | .ready => L.code (some b) L0.body fr1 (h1.set b (.loop { L1 with state := .busy })) fun x2 _ h2 => match h2.get b with
              | some (.loop L2) => match jumpOf x2 with
                | some j => k (.bool j.isNone) (h2.set b (.loop (roundEnd L2 j)))
                | none => false
              | _ => false
            | _ => false
          | _ => false
        | _ => false
    else false
  | _ => false

def evO (ops : Array Oper) (rd : Option Nat) (K : AExit → AFr → AHeap → Bool) : List (Nat × Oper) → AFr → AHeap → Bool
  | [], fr, h => K .normal fr h
  | (_, o) :: l, fr, h => match fr.wanted ops o with
    | some (some false) => evO ops rd K l (fr.put o.dst undef) h
    | some (some true) => match o.op with
      | .call { callee := .value f, args, .. } => match fr.opnd h f, fr.opnds h args.toList with
        | some (.func (.func g) fs cs), some vs => match E.fn.get g with
          | some G => bif G.body.isSome then L.call g (fs.toList ++ vs ++ cs.toList) h (fun r h' => match r with
            | .ret v => evO ops rd K l (fr.put o.dst v) h'
            | .pan _ => false) else false
          | none => false
        | some (.func (.yield b) _ _), some vs => evYield L b vs h fun v h' => evO ops rd K l (fr.put o.dst v) h'
        | _, _ => false
      | .defer { callee := .value f, args, .. } => match rd, fr.opnd h f, fr.opnds h args.toList with
        | none, some (.func (.func g) fs cs), some vs => evO ops rd K l ({ fr with defers := .fn g (fs.toList ++ vs ++ cs.toList) :: fr.defers }.put o.dst undef) h
        | _, _, _ => false
      | op => match E.op fr h op with
        | some (v, h') => evO ops rd K l (fr.put o.dst v) h'
        | none => false
    | _ => false

def evLoop (body : AFr → AHeap → (AExit → AFr → AHeap → Bool) → Bool) (K : AExit → AFr → AHeap → Bool) : Nat → AFr → AHeap → Bool
  | 0, _, _ => false
  | m + 1, fr, h => body fr h fun x fr' h' => match x with
    | .normal => evLoop body K m fr' h'
    | x => K x fr' h'

def evRF (x : Operand) (ps : Array Tmp) (assign body : Code) (fr : AFr) (h : AHeap) (K : AExit → AFr → AHeap → Bool) : Bool :=
  match fr.opnd h x with
  | some (.func (.func g) fs cs) => match E.fn.get g with
    | some G => bif G.body.isSome then
        L.call g (fs.toList ++ [.func (.yield (Nat.succ h.next)) #[] #[]] ++ cs.toList)
          ((h.alloc (.marks true)).alloc (.loop { state := .ready, pending := none, tmps := fr.tmps, n := fr.n, params := ps, assign := assign, body := body, defers := h.next }))
          fun r h' => match r with
            | .ret _ => match h'.get (Nat.succ h.next) with
              | some (.loop L0) => match L0.state with
                | .busy => false
                | _ => match L0.pending with
                  | none => K .normal { fr with defers := .mark h.next :: fr.defers } (h'.set (Nat.succ h.next) (.loop { L0 with state := .exhausted }))
                  | some c => L.code none c { fr with defers := .mark h.next :: fr.defers } (h'.set (Nat.succ h.next) (.loop { L0 with state := .exhausted })) K
              | _ => false
            | .pan _ => false
      else false
    | none => false
  | _ => false

def evC : Code → Option Nat → AFr → AHeap → (AExit → AFr → AHeap → Bool) → Bool
  | .skip, _, fr, h, K => K .normal fr h
  | .label _, _, fr, h, K => K .normal fr h
  | .exit id, _, fr, h, K => K (.exit id) fr h
  | .goto l, _, fr, h, K => K (.goto l) fr h
  | .ret, _, fr, h, K => K .ret fr h
  | .seq a b, rd, fr, h, K => evC a rd fr h fun x fr' h' => match x with
    | .normal => evC b rd fr' h' K
    | x => K x fr' h'
  | .block id c, rd, fr, h, K => evC c rd fr h fun x fr' h' => match x with
    | .exit i => bif Nat.beq i id then K .normal fr' h' else K (.exit i) fr' h'
    | x => K x fr' h'
  | .cond c x y, rd, fr, h, K => match fr.opnd h c with
    | some (.bool true) => evC x rd fr h K
    | some (.bool false) => evC y rd fr h K
    | some (.complex .f32 1 0) => bif evC x rd fr h K then evC y rd fr h K else false
    | _ => false
  | .loop c, rd, fr, h, K => L.loop (evC c rd) rd c fr h K
  | .region _ ops false, rd, fr, h, K => evO E L ops rd K (idxL 0 ops.toList) fr h
  | .region _ ops true, _, fr, h, K => L.draw ops fr h K
  | .rangeFunc x ps assign body, none, fr, h, K => evRF E L x ps assign body fr h K
  | _, _, _, _, _ => false

/-- A function is left. -/
def evL (fn : Func) (fr : AFr) (K : ARet → AHeap → Bool) : List ADef → AHeap → Bool
  | [], h => match E.results fn fr h with
    | some v => K (.ret v) h
    | none => false
  | .mark b :: ds, h => match h.get b with
    | some (.marks true) => evL fn fr K ds (h.set b (.marks false))
    | _ => false
  | .fn f as :: ds, h => match E.fn.get f with
    | some g => bif g.body.isSome then L.dcall f as h (fun h' => evL fn fr K ds h') else false
    | none => false

def evCall (f : FuncId) (args : List Value) (h : AHeap) (K : ARet → AHeap → Bool) : Bool :=
  match E.fn.get f with
  | some fn => match fn.body with
    | some c => evC E L c none (frame0 fn args) h fun x fr' h' => match x with
      | .normal => evL E L fn fr' K fr'.defers h'
      | .ret => evL E L fn fr' K fr'.defers h'
      | _ => false
    | none => false
  | none => false

def isRecover (o : Oper) : Bool :=
  match o.guard with
  | none => match o.op with
    | .call { callee := .builtin .recover, args, .. } => args.toList.isEmpty
    | _ => false
  | some _ => false

def evDcall (f : FuncId) (args : List Value) (h : AHeap) (K : AHeap → Bool) : Bool :=
  match E.fn.get f with
  | some fn => match fn.body with
    | some (.seq (.region _ ops false) rest) => match ops.toList with
      | [o] => bif isRecover o then evC E L rest none ((frame0 fn args).put o.dst .nilIface) h (fun x fr' h' => match x with
          | .normal => fr'.defers.isEmpty && (E.results fn fr' h').isSome && K h'
          | .ret => fr'.defers.isEmpty && (E.results fn fr' h').isSome && K h'
          | _ => false) else false
      | _ => false
    | _ => false
  | none => false
end defs

section
variable {P : Program} {E : Env} {L : Low} (ok : EnvOk P E) (lo : LowOk P L)

theorem so_defer {ops : Array Oper} {i : Nat} {o : Oper} {l : List Nat} {fr : AFr} {h : AHeap} {Q : AExit → AFr → AHeap → Prop} {x : Operand} {args : Array Operand} {ts : Array TypeId} {f : FuncId} {fs cs : Array Value} {vs : List Value}
    (ho : ops[i]? = some o) (hop : o.op = .defer { callee := .value x, args := args, argTypes := ts }) (hw : fr.wanted ops o = some (some true)) (hx : fr.opnd h x = some (.func (.func f) fs cs)) (ha : fr.opnds h args.toList = some vs)
    (s : SO P none ops l ({ fr with defers := .fn f (fs.toList ++ vs ++ cs.toList) :: fr.defers }.put o.dst undef) h Q) : SO P none ops (i :: l) fr h Q := by
  intro γ a w rc Qc r1 r2 r3 k
  cases rc with
  | some c => exact r3.elim
  | none =>
  rw [wpOpsIn_cons]
  simp only [wpOpIn, ho, r2.wanted hw, if_true]
  refine ⟨about_wide none o w a, ?_⟩
  obtain ⟨fs', cs', hev, h1, h2⟩ := (r2.opnd r1 hx).func_inv (by intro b hb; cases hb)
  have hargs := r2.opnds r1 ha
  have hrun : (o.semAt (fence none).round a.eval).run P w = .ok (.defer { target := .fn (.func f) cs', args := fs' ++ args.map a.eval }) w := by
    show (execOp a.eval o).run P w = _
    simp only [execOp, hop, resolve, hev, Deferred.ofValue, Sem.run_bind, Sem.run_pure, Result.andThen_ok]
  rw [hrun]
  have hf : RelF γ { fr with defers := .fn f (fs.toList ++ vs ++ cs.toList) :: fr.defers } { a with defers := { target := .fn (.func f) cs', args := fs' ++ args.map a.eval } :: a.defers } :=
    ⟨r2.tm, ⟨_, _, rfl, by simpa using (h1.append hargs).append h2⟩, r2.df⟩
  exact s γ _ w none Qc r1 (hf.put (.tuple .nil) _) trivial k

theorem op_notDefer {o : Oper} {fr : AFr} {h h' : AHeap} {v : Value} (e : E.op fr h o.op = some (v, h')) : isDefer o = false := by
  unfold Env.op at e
  cases hi : isE E o.op with
  | true => rw [hi] at e; exact opE_notDefer e
  | false =>
    rw [hi] at e
    simp only [cond_false] at e
    split at e
    · rename_i hv; exact opV_notDefer hv
    · cases e

include lo in
theorem evYield_sound {ops : Array Oper} {i : Nat} {o : Oper} {l : List Nat} {rd : Option Nat} {fr : AFr} {h : AHeap} {Q : AExit → AFr → AHeap → Prop} {x : Operand} {args : Array Operand} {ts : Array TypeId} {b : Nat} {fs cs : Array Value} {vs : List Value} {k : Value → AHeap → Bool}
    (ho : ops[i]? = some o) (hop : o.op = .call { callee := .value x, args := args, argTypes := ts }) (hw : fr.wanted ops o = some (some true)) (hx : fr.opnd h x = some (.func (.yield b) fs cs)) (ha : fr.opnds h args.toList = some vs)
    (e : evYield L b vs h k = true) (hk : ∀ v h', k v h' = true → SO P rd ops l (fr.put o.dst v) h' Q) : SO P rd ops (i :: l) fr h Q := by
  unfold evYield at e
  split at e
  · rename_i L0 hg
    obtain ⟨hn, e⟩ := bif_true e
    refine SO.yield ho hop hw hx ha hg (Nat.eq_of_beq_eq_true hn) ((lo.code _ _ _ _ _ e).mono ?_)
    intro x1 fr1 h1 q
    cases x1 <;> simp only at q
    case normal =>
      refine ⟨trivial, ?_⟩
      split at q
      · rename_i L1 hg1
        split at q
        · rename_i hst
          refine ⟨L1, hg1, hst, (lo.code _ _ _ _ _ q).mono ?_⟩
          intro x2 fr2 h2 q2
          split at q2
          · rename_i L2 hg2
            split at q2
            · rename_i j hj
              exact ⟨L2, j, hg2, hj, hk _ _ q2⟩
            · cases q2
          · cases q2
        · cases q
      · cases q
    all_goals cases q
  · cases e

include ok lo in
theorem evO_sound {ops : Array Oper} {rd : Option Nat} {K : AExit → AFr → AHeap → Bool} : ∀ (l : List (Nat × Oper)) (fr : AFr) (h : AHeap), (∀ x ∈ l, ops[x.1]? = some x.2) → evO E L ops rd K l fr h = true →
    SO P rd ops (l.map (·.1)) fr h (fun x fr' h' => K x fr' h' = true)
  | [], fr, h, _, e => SO.nil e
  | (i, o) :: l, fr, h, hl, e => by
    have ho : ops[i]? = some o := hl (i, o) List.mem_cons_self
    have hl' : ∀ x ∈ l, ops[x.1]? = some x.2 := fun x hx => hl x (List.mem_cons_of_mem _ hx)
    rw [List.map_cons]
    unfold evO at e
    split at e
    · rename_i hw
      exact SO.skip ho hw (evO_sound l _ _ hl' e)
    · rename_i hw
      split at e
      · rename_i f args ts hop
        split at e
        · rename_i g fs cs vs hf ha
          split at e
          · rename_i G hG
            obtain ⟨hb, e⟩ := bif_true e
            refine SO.call ok ho hop hw hf ha hG hb ((lo.call _ _ _ _ e).mono ?_)
            intro r h' q
            cases r with
            | ret v => exact evO_sound l _ _ hl' q
            | pan v => cases q
          · cases e
        · rename_i hf ha
          exact evYield_sound lo ho hop hw hf ha e fun v h' q => evO_sound l _ _ hl' q
        · cases e
      · rename_i f args ts hop
        split at e
        · rename_i hf ha
          exact so_defer ho hop hw hf ha (evO_sound l _ _ hl' e)
        · cases e
      · split at e
        · rename_i v h' hv
          exact SO.value ho hw (op_notDefer hv) (op_ok ok hv) (evO_sound l _ _ hl' e)
        · cases e
    · cases e

theorem evLoop_sound {rd : Option Nat} {c : Code} {body : AFr → AHeap → (AExit → AFr → AHeap → Bool) → Bool} {K : AExit → AFr → AHeap → Bool} (hb : ∀ fr h K, body fr h K = true → SW P rd c fr h (fun x fr' h' => K x fr' h' = true)) :
    ∀ (m : Nat) (fr : AFr) (h : AHeap), evLoop body K m fr h = true → SR P rd c (fun x fr' h' => K x fr' h' = true) m fr h
  | 0, _, _, e => by cases e
  | m + 1, fr, h, e => by
    unfold evLoop at e
    refine (hb _ _ _ e).mono ?_
    intro x fr' h' q
    cases x with
    | normal => exact evLoop_sound hb m fr' h' q
    | _ => exact q

include ok lo in
theorem evRF_sound {x : Operand} {ps : Array Tmp} {assign body : Code} {fr : AFr} {h : AHeap} {K : AExit → AFr → AHeap → Bool} (e : evRF E L x ps assign body fr h K = true) : SW P none (.rangeFunc x ps assign body) fr h (fun x fr' h' => K x fr' h' = true) := by
  unfold evRF at e
  split at e
  · rename_i hx
    split at e
    · rename_i G hG
      obtain ⟨hb, e⟩ := bif_true e
      refine SW.rangeFunc ok hx hG hb ((lo.call _ _ _ _ e).mono ?_)
      intro r h' q
      cases r with
      | pan v => cases q
      | ret v =>
        refine ⟨trivial, ?_⟩
        simp only at q
        split at q
        · rename_i L0 hg
          split at q
          · cases q
          · rename_i hst
            refine ⟨L0, hg, hst, ?_⟩
            split at q
            · rename_i hp; simp only [hp] at q ⊢; exact q
            · rename_i c hp; simp only [hp] at q ⊢; exact lo.code _ _ _ _ _ q
        · cases q
    · cases e
  · cases e

include ok lo in
theorem evC_sound (hm : P.follows .mixedOrders = true) : ∀ (c : Code) (rd : Option Nat) (fr : AFr) (h : AHeap) (K : AExit → AFr → AHeap → Bool), evC E L c rd fr h K = true → SW P rd c fr h (fun x fr' h' => K x fr' h' = true)
  | .skip, _, _, _, _, e => SW.skip e
  | .label _, _, _, _, _, e => SW.label e
  | .exit _, _, _, _, _, e => SW.exit e
  | .goto _, _, _, _, _, e => SW.goto e
  | .ret, _, _, _, _, e => SW.ret e
  | .seq a b, rd, fr, h, K, e => by
    refine SW.seq ((evC_sound hm a rd fr h _ e).mono ?_)
    intro x fr' h' q
    cases x with
    | normal => exact evC_sound hm b rd fr' h' K q
    | _ => exact q
  | .block id c, rd, fr, h, K, e => by
    refine SW.block ((evC_sound hm c rd fr h _ e).mono ?_)
    intro x fr' h' q
    cases x with
    | exit i =>
      simp only at q ⊢
      cases hb : Nat.beq i id with
      | true => rw [hb] at q; rw [if_pos (Nat.eq_of_beq_eq_true hb)]; exact q
      | false =>
        rw [hb] at q
        rw [if_neg (fun hi => by rw [beq_t hi] at hb; cases hb)]; exact q
    | _ => exact q
  | .cond c x y, rd, fr, h, K, e => by
    unfold evC at e
    split at e
    · rename_i hc; exact SW.cond hc (evC_sound hm x rd fr h K e)
    · rename_i hc; exact SW.cond hc (evC_sound hm y rd fr h K e)
    · rename_i hc
      obtain ⟨e1, e2⟩ := bif_true e
      exact SW.cond_any hc (evC_sound hm x rd fr h K e1) (evC_sound hm y rd fr h K e2)
    · cases e
  | .loop c, rd, fr, h, K, e => lo.loop _ rd c fr h K (fun fr h K e => evC_sound hm c rd fr h K e) e
  | .region _ ops false, rd, fr, h, K, e => by
    have := evO_sound ok lo (ops := ops) (idxL 0 ops.toList) fr h (fun x hx => by simpa using (mem_idxL (j := x.1) (o := x.2)).1 hx) e
    have hr : (idxL 0 ops.toList).map (·.1) = List.range ops.size := by
      have : ∀ (l : List Oper) (i : Nat), (idxL i l).map (·.1) = List.range' i l.length := by
        intro l
        induction l with
        | nil => intro i; rfl
        | cons x l ih => intro i; rw [idxL, List.map_cons, ih, List.length_cons, List.range'_succ]
      rw [this, List.range_eq_range']; simp
    rw [hr] at this
    exact SW.region this
  | .region _ _ true, _, _, _, _, e => lo.draw _ _ _ _ _ _ e
  | .rangeFunc _ _ _ _, none, _, _, _, e => evRF_sound ok lo e
  | .rangeFunc _ _ _ _, some _, _, _, _, e => by simp [evC] at e
  | .scope _, _, _, _, _, e => by simp [evC] at e
  | .refuse _, _, _, _, _, e => by simp [evC] at e

theorem SD.mono {f : FuncId} {as : List Value} {h : AHeap} {Q Q' : AHeap → Prop} (s : SD P f as h Q) (hq : ∀ h, Q h → Q' h) : SD P f as h Q' :=
  fun γ args w r1 r2 => (s γ args w r1 r2).mono fun _ _ _ ⟨a, b, h', γ', q, r⟩ => ⟨a, b, h', γ', hq h' q, r⟩

include ok lo in
theorem evL_sound {fn : Func} {fr : AFr} {K : ARet → AHeap → Bool} : ∀ (ds : List ADef) (h : AHeap), evL E L fn fr K ds h = true → SL P fn fr ds h (fun r h' => K r h' = true)
  | [], h, e => by
    unfold evL at e
    split at e
    · rename_i v hv; exact SL.nil ok hv e
    · cases e
  | .mark b :: ds, h, e => by
    unfold evL at e
    split at e
    · rename_i hg; exact SL.mark hg (evL_sound ds _ e)
    · cases e
  | .fn f as :: ds, h, e => by
    unfold evL at e
    split at e
    · rename_i g hg
      obtain ⟨hb, e⟩ := bif_true e
      exact SL.dcall ok hg hb ((lo.dcall _ _ _ _ e).mono fun h' q => evL_sound ds h' q)
    · cases e
include ok lo in
theorem evCall_sound (hm : P.follows .mixedOrders = true) {f : FuncId} {args : List Value} {h : AHeap} {K : ARet → AHeap → Bool} (e : evCall E L f args h K = true) : SC P f args h (fun r h' => K r h' = true) := by
  unfold evCall at e
  split at e
  · rename_i fn hf
    split at e
    · rename_i c hc
      refine SC.body ok hf hc ((evC_sound ok lo hm _ _ _ _ _ e).mono ?_)
      intro x fr' h' q
      cases x with
      | normal => exact ⟨trivial, evL_sound ok lo _ _ q⟩
      | ret => exact ⟨trivial, evL_sound ok lo _ _ q⟩
      | _ => cases q
    · cases e
  · cases e

include ok lo in
theorem evDcall_sound (hm : P.follows .mixedOrders = true) {f : FuncId} {args : List Value} {h : AHeap} {K : AHeap → Bool} (e : evDcall E L f args h K = true) : SD P f args h (fun h' => K h' = true) := by
  unfold evDcall at e
  split at e
  · rename_i fn hf
    split at e
    · rename_i id ops rest hb
      split at e
      · rename_i o ho
        obtain ⟨hr, e⟩ := bif_true e
        unfold isRecover at hr
        split at hr
        · rename_i hgd
          split at hr
          · rename_i args' ts hop
            have hops : ops = #[o] := Array.toList_inj.1 (by rw [ho])
            subst hops
            have hargs : args' = #[] := by
              apply Array.toList_inj.1
              cases hq : args'.toList with
              | nil => rfl
              | cons _ _ => rw [hq] at hr; cases hr
            subst hargs
            refine SD.recover ok hf hb hop hgd ((evC_sound ok lo hm _ _ _ _ _ e).mono ?_)
            intro x fr' h' q
            cases x with
            | normal =>
              simp only [Bool.and_eq_true] at q
              exact ⟨trivial, List.isEmpty_iff.1 q.1.1, q.1.2, q.2⟩
            | ret =>
              simp only [Bool.and_eq_true] at q
              exact ⟨trivial, List.isEmpty_iff.1 q.1.1, q.1.2, q.2⟩
            | _ => cases q
          · cases hr
        · cases hr
      · cases e
    · cases e
  · cases e
end

/-! #### All levels -/
/-- Functions whose calls are answered by a law of their own. -/
abbrev Ov := PT (List Value → AHeap → (ARet → AHeap → Bool) → Bool)
def OvOk (P : Program) (ov : Ov) : Prop := ∀ f g, ov.get f = some g → ∀ args h K, g args h K = true → SC P f args h (fun r h' => K r h' = true)

/-- So many rounds. -/
def loopN (body : AFr → AHeap → (AExit → AFr → AHeap → Bool) → Bool) (_ : Option Nat) (_ : Code) (fr : AFr) (h : AHeap) (K : AExit → AFr → AHeap → Bool) : Bool := evLoop body K 1000000 fr h
theorem loopN_sound {P : Program} {rd : Option Nat} {c : Code} {body : AFr → AHeap → (AExit → AFr → AHeap → Bool) → Bool} {fr : AFr} {h : AHeap} {K : AExit → AFr → AHeap → Bool}
    (hb : ∀ fr h K, body fr h K = true → SW P rd c fr h (fun x fr' h' => K x fr' h' = true)) (e : loopN body rd c fr h K = true) : SW P rd (.loop c) fr h (fun x fr' h' => K x fr' h' = true) :=
  SW.loop 1000000 (evLoop_sound hb _ fr h e)

/-- How a region that draws is evaluated, over calls. -/
abbrev Dt := (FuncId → List Value → AHeap → (ARet → AHeap → Bool) → Bool) → Array Oper → AFr → AHeap → (AExit → AFr → AHeap → Bool) → Bool
def DtOk (P : Program) (dr : Dt) : Prop := ∀ call, CallOk P call → ∀ rd id ops fr h K, dr call ops fr h K = true → SW P rd (.region id ops true) fr h (fun x fr' h' => K x fr' h' = true)

def lowG (E : Env) (ov : Ov) (dr : Dt) : Nat → Low
  | 0 => { call := fun _ _ _ _ => false, dcall := fun _ _ _ _ => false, code := fun _ _ _ _ _ => false, draw := fun _ _ _ _ => false, loop := loopN }
  | n + 1 =>
    { call := fun f args h K => match ov.get f with
        | some g => g args h K
        | none => evCall E (lowG E ov dr n) f args h K
      dcall := fun f args h K => evDcall E (lowG E ov dr n) f args h K
      code := fun rd c fr h K => evC E (lowG E ov dr n) c rd fr h K
      draw := fun ops fr h K => dr (fun f args h K => match ov.get f with
        | some g => g args h K
        | none => evCall E (lowG E ov dr n) f args h K) ops fr h K
      loop := loopN }

theorem lowG_ok {P : Program} {E : Env} (ok : EnvOk P E) (hm : P.follows .mixedOrders = true) {ov : Ov} (ho : OvOk P ov) {dr : Dt} (hd : DtOk P dr) : ∀ n, LowOk P (lowG E ov dr n)
  | 0 => ⟨(fun _ _ _ _ e => by cases e), (fun _ _ _ _ e => by cases e), (fun _ _ _ _ _ e => by cases e), (fun _ _ _ _ _ _ e => by cases e), fun _ _ _ _ _ _ hb e => loopN_sound hb e⟩
  | n + 1 => by
    have ih := lowG_ok ok hm ho hd n
    have hc : CallOk P (lowG E ov dr (n + 1)).call := by
      intro f args h K e
      simp only [lowG] at e
      split at e
      · rename_i g hg; exact ho f g hg args h K e
      · exact evCall_sound ok ih hm e
    exact ⟨hc, fun f args h K e => evDcall_sound ok ih hm e, fun rd c fr h K e => evC_sound ok ih hm c rd fr h K e, fun rd id ops fr h K e => hd _ hc rd id ops fr h K e, fun _ _ _ _ _ _ hb e => loopN_sound hb e⟩

def low (E : Env) (ov : Ov) (n : Nat) : Low := lowG E ov (fun call ops fr h K => evDraw E call ops fr h K) n
theorem low_ok {P : Program} {E : Env} (ok : EnvOk P E) (hm : P.follows .mixedOrders = true) {ov : Ov} (ho : OvOk P ov) (n : Nat) : LowOk P (low E ov n) :=
  lowG_ok ok hm ho (fun _ hc _ _ _ _ _ _ e => evDraw_sound ok hc hm e) n

end
end Go.Abs

/- Functions and types at hand, from a program's own facts; a whole run from a world. -/
namespace Go.Abs
noncomputable section

structure FnRow (P : Program) where
  k : Nat
  f : Func
  ok : P.funcs[k]? = some f
  call : ∀ args w, (callFunc k args).run P w = .ok (.enter k args) w
structure TiRow (P : Program) where
  k : Nat
  i : TypeInfo
  ok : P.info? k = some i

def fnT {P : Program} : List (FnRow P) → PT Func → PT Func
  | [], t => t
  | r :: l, t => fnT l (t.set r.k r.f)
def tiT {P : Program} : List (TiRow P) → PT TypeInfo → PT TypeInfo
  | [], t => t
  | r :: l, t => tiT l (t.set r.k r.i)
def Env.ofRows {P : Program} (F : List (FnRow P)) (T : List (TiRow P)) : Env := { ti := tiT T .leaf, fn := fnT F .leaf }

theorem fnT_get {P : Program} {k : Nat} {x : Func} : ∀ {l : List (FnRow P)} {t : PT Func}, (fnT l t).get k = some x → (∃ r ∈ l, r.k = k ∧ r.f = x) ∨ t.get k = some x
  | [], _, h => .inr h
  | r :: l, t, h => by
    rcases fnT_get (l := l) h with ⟨r', hr, hk, hx⟩ | h
    · exact .inl ⟨r', List.mem_cons_of_mem _ hr, hk, hx⟩
    · rw [PT.get_set] at h
      split at h
      · rename_i hk
        simp only [Option.some.injEq] at h
        exact .inl ⟨r, List.mem_cons_self, hk.symm, h⟩
      · exact .inr h
theorem tiT_get {P : Program} {k : Nat} {x : TypeInfo} : ∀ {l : List (TiRow P)} {t : PT TypeInfo}, (tiT l t).get k = some x → (∃ r ∈ l, r.k = k ∧ r.i = x) ∨ t.get k = some x
  | [], _, h => .inr h
  | r :: l, t, h => by
    rcases tiT_get (l := l) h with ⟨r', hr, hk, hx⟩ | h
    · exact .inl ⟨r', List.mem_cons_of_mem _ hr, hk, hx⟩
    · rw [PT.get_set] at h
      split at h
      · rename_i hk
        simp only [Option.some.injEq] at h
        exact .inl ⟨r, List.mem_cons_self, hk.symm, h⟩
      · exact .inr h

theorem ofRows_ok {P : Program} (F : List (FnRow P)) (T : List (TiRow P)) : EnvOk P (Env.ofRows F T) := by
  refine ⟨fun t i e => ?_, fun f x e => ?_, fun f x e _ args w => ?_⟩
  · rcases tiT_get e with ⟨r, _, rfl, rfl⟩ | h
    · exact r.ok
    · rw [PT.get_leaf] at h; cases h
  · rcases fnT_get e with ⟨r, _, rfl, rfl⟩ | h
    · exact r.ok
    · rw [PT.get_leaf] at h; cases h
  · rcases fnT_get e with ⟨r, _, rfl, rfl⟩ | h
    · exact r.call args w
    · rw [PT.get_leaf] at h; cases h

/-- The heap in which a run begins: some variables, for reading. -/
def heap0 : List (PT Value) → Nat → PT AObj → AHeap
  | [], n, t => { objs := t, next := n, ng := n, grow := .leaf }
  | cs :: l, n, t => heap0 l (Nat.succ n) (t.set n (.cells cs .ro))

theorem heap0_ng : ∀ (l : List (PT Value)) (n : Nat) (t : PT AObj), (heap0 l n t).ng = n + l.length ∧ (heap0 l n t).next = n + l.length ∧ (heap0 l n t).grow = .leaf
  | [], n, t => ⟨rfl, rfl, rfl⟩
  | cs :: l, n, t => by
    obtain ⟨a, b, c⟩ := heap0_ng l (Nat.succ n) (t.set n (.cells cs .ro))
    have : Nat.succ n + l.length = n + (cs :: l).length := by rw [List.length_cons]; omega
    exact ⟨by rw [← this]; exact a, by rw [← this]; exact b, c⟩
theorem heap0_get : ∀ (l : List (PT Value)) (n : Nat) (t : PT AObj), (∀ m, n ≤ m → t.get m = none) → ∀ b, (heap0 l n t).get b = if n ≤ b ∧ b < n + l.length then (l[b - n]?).map (fun cs => .cells cs .ro) else t.get b
  | [], n, t, _, b => by simp only [List.length_nil]; rw [if_neg (by omega)]; rfl
  | cs :: l, n, t, ht, b => by
    have ih := heap0_get l (Nat.succ n) (t.set n (.cells cs .ro)) (fun m hm => by
      have hm : n + 1 ≤ m := hm
      rw [PT.get_set, if_neg (by omega)]; exact ht m (by omega)) b
    show (heap0 l (Nat.succ n) (t.set n (.cells cs .ro))).get b = _
    rw [ih, PT.get_set]
    simp only [List.length_cons]
    by_cases hb : b = n
    · subst hb
      rw [if_neg (by omega), if_pos rfl, if_pos (by omega)]; simp
    · by_cases h2 : n + 1 ≤ b ∧ b < n + 1 + l.length
      · rw [if_pos (by show n + 1 ≤ b ∧ _; exact h2), if_pos (by omega), show b - n = (b - Nat.succ n) + 1 from by have := h2.1; omega]
        simp
      · rw [if_neg (by show ¬ (n + 1 ≤ b ∧ _); exact h2), if_neg hb, if_neg (by omega)]

/-- Flat cells of a row, as they lie in the world. -/
def CellsAt (w : World) (b : Nat) (cs : PT Value) : Prop := ∃ arr el fz, w.heap[b]? = some (.cells arr el fz) ∧ ∀ i v, cs.get i = some v → arr[i]? = some v ∧ flat v = true

def gam0 (n : Nat) : Gam := fun b => if b < n then some (b, 0) else none

theorem relH0 {w : World} {l : List (PT Value)} (h : ∀ b cs, l[b]? = some cs → CellsAt w b cs) : RelH (gam0 l.length) (heap0 l 0 .leaf) w := by
  obtain ⟨hn, hx, hg⟩ := heap0_ng l 0 .leaf
  rw [Nat.zero_add] at hn hx
  have hget : ∀ b, (heap0 l 0 .leaf).get b = if b < l.length then (l[b]?).map (fun cs => .cells cs .ro) else none := by
    intro b
    rw [heap0_get l 0 .leaf (fun m _ => PT.get_leaf m)]
    by_cases hb : b < l.length
    · rw [if_pos ⟨Nat.zero_le _, by omega⟩, if_pos hb]; rfl
    · rw [if_neg (by omega), if_neg hb, PT.get_leaf]
  have hobj : ∀ b o, (heap0 l 0 .leaf).get b = some o → ∃ cs, b < l.length ∧ l[b]? = some cs ∧ o = .cells cs .ro := by
    intro b o e
    rw [hget] at e
    split at e
    · rename_i hb
      rw [List.getElem?_eq_getElem hb] at e
      simp only [Option.map_some, Option.some.injEq] at e
      exact ⟨_, hb, List.getElem?_eq_getElem hb, e.symm⟩
    · cases e
  refine ⟨fun b hb => ?_, fun b c d e => ?_, fun b o e => ?_, ?_, ?_⟩
  · rw [hn] at hb; simp [gam0, hb]
  · simp only [gam0] at e
    split at e
    · rename_i hb
      simp only [Option.some.injEq, Prod.mk.injEq] at e
      obtain ⟨rfl, rfl⟩ := e
      obtain ⟨arr, el, fz, h1, _⟩ := h b _ (List.getElem?_eq_getElem hb)
      exact ⟨by rw [hx]; exact hb, (Array.getElem?_eq_some_iff.1 h1).1⟩
    · cases e
  · obtain ⟨cs, hb, hl, rfl⟩ := hobj b o e
    obtain ⟨arr, el, fz, h1, h2⟩ := h b cs hl
    refine ⟨b, 0, .cells arr el fz, by simp [gam0, hb], h1, ?_⟩
    simp only [OR]
    intro i v hv
    obtain ⟨h3, h4⟩ := h2 i v hv
    exact ⟨v, h3, .flat h4, fun hc => by cases hc⟩
  · intro b₁ b₂ o₁ o₂ c d₁ d₂ g₁ g₂ e₁ e₂ hne
    simp only [gam0] at e₁ e₂
    split at e₁ <;> simp only [Option.some.injEq, Prod.mk.injEq, reduceCtorEq] at e₁
    split at e₂ <;> simp only [Option.some.injEq, Prod.mk.injEq, reduceCtorEq] at e₂
    omega
  · intro q b sz hq
    rw [hg, PT.get_leaf] at hq; cases hq

theorem prot0 {l : List (PT Value)} (c : Nat) : Prot (gam0 l.length) (heap0 l 0 .leaf) c := by
  intro b d e
  simp only [gam0] at e
  split at e
  · rename_i hb
    refine ⟨l[b], ?_⟩
    rw [heap0_get l 0 .leaf (fun m _ => PT.get_leaf m), if_pos ⟨Nat.zero_le _, by omega⟩]
    simp [List.getElem?_eq_getElem hb]
  · cases e

/-- A call, run from a world in which some variables lie as they should: what it answers, and that nothing that was there is changed. -/
theorem run_from {P : Program} {f : FuncId} {args : List Value} {l : List (PT Value)} {Q : ARet → AHeap → Prop} (s : SC P f args (heap0 l 0 .leaf) Q) {w : World} (h : ∀ b cs, l[b]? = some cs → CellsAt w b cs) {as : Array Value} (ha : VRs (gam0 l.length) args as.toList) :
    Calls P f as w fun e w' => (∃ r h' γ', Q r h' ∧ RR γ' r e) ∧ w'.os = w.os ∧ w'.tape = w.tape ∧ w'.output = w.output ∧ w.heap.size ≤ w'.heap.size ∧ ∀ c, c < w.heap.size → w'.heap[c]? = w.heap[c]? := by
  refine callsIn_wide.1 (CallsIn.mono (s _ as w (relH0 h) ha) ?_)
  rintro e w' ⟨r, h', γ', q, _, rr, f⟩
  exact ⟨⟨r, h', γ', q, rr⟩, f.os, f.tape, f.output, f.size, fun c hc => (f.prot c hc (prot0 c)).2⟩

/-- Rows for reading, wherever they lie, with cells that may be unknown. -/
def RowAt (γ : Gam) (w : World) (c d : Nat) (cs : PT Value) : Prop := ∃ arr el fz, w.heap[c]? = some (.cells arr el fz) ∧ ∀ i v, cs.get i = some v → ∃ v', arr[i + d]? = some v' ∧ VR γ v v'

def heapR (ng : Nat) (l : List (PT Value)) : AHeap := { heap0 l 0 .leaf with ng := ng }
def gamR (pl : List (Nat × Nat)) : Gam := fun b => pl[b]?

theorem relHR {w : World} {l : List (PT Value)} {pl : List (Nat × Nat)} {ng : Nat} (hl : pl.length = l.length) (hg : ∀ b : Nat, b < ng → pl[b]? = some (b, 0))
    (h : ∀ (b : Nat) (cs : PT Value) (c d : Nat), l[b]? = some cs → pl[b]? = some (c, d) → RowAt (gamR pl) w c d cs) : RelH (gamR pl) (heapR ng l) w ∧ ∀ c, Prot (gamR pl) (heapR ng l) c := by
  obtain ⟨_, hx, hgr⟩ := heap0_ng l 0 .leaf
  rw [Nat.zero_add] at hx
  have hget : ∀ b, (heapR ng l).get b = if b < l.length then (l[b]?).map (fun cs => .cells cs .ro) else none := by
    intro b
    show (heap0 l 0 .leaf).get b = _
    rw [heap0_get l 0 .leaf (fun m _ => PT.get_leaf m)]
    by_cases hb : b < l.length
    · rw [if_pos ⟨Nat.zero_le _, by omega⟩, if_pos hb]; rfl
    · rw [if_neg (by omega), if_neg hb, PT.get_leaf]
  have hobj : ∀ b o, (heapR ng l).get b = some o → ∃ cs, b < l.length ∧ l[b]? = some cs ∧ o = .cells cs .ro := by
    intro b o e
    rw [hget] at e
    split at e
    · rename_i hb
      rw [List.getElem?_eq_getElem hb] at e
      simp only [Option.map_some, Option.some.injEq] at e
      exact ⟨_, hb, List.getElem?_eq_getElem hb, e.symm⟩
    · cases e
  have hlt : ∀ b c d, gamR pl b = some (c, d) → b < l.length := by
    intro b c d e
    have : b < pl.length := by
      rcases Nat.lt_or_ge b pl.length with h | h
      · exact h
      · unfold gamR at e; rw [List.getElem?_eq_none h] at e; cases e
    omega
  refine ⟨⟨fun b hb => hg b hb, fun b c d e => ?_, fun b o e => ?_, ?_, ?_⟩, ?_⟩
  · have hb := hlt b c d e
    obtain ⟨arr, el, fz, h1, _⟩ := h b _ c d (List.getElem?_eq_getElem hb) e
    exact ⟨by show b < (heap0 l 0 .leaf).next; rw [hx]; exact hb, (Array.getElem?_eq_some_iff.1 h1).1⟩
  · obtain ⟨cs, hb, hlb, rfl⟩ := hobj b o e
    have hp : pl[b]? = some pl[b] := List.getElem?_eq_getElem (by omega)
    obtain ⟨arr, el, fz, h1, h2⟩ := h b cs pl[b].1 pl[b].2 hlb hp
    refine ⟨pl[b].1, pl[b].2, .cells arr el fz, hp, h1, ?_⟩
    simp only [OR]
    intro i v hv
    obtain ⟨v', h3, h4⟩ := h2 i v hv
    exact ⟨v', h3, h4, fun hc => by cases hc⟩
  · intro b₁ b₂ o₁ o₂ c d₁ d₂ g₁ g₂ _ _ _
    obtain ⟨_, _, _, rfl⟩ := hobj b₁ o₁ g₁
    obtain ⟨_, _, _, rfl⟩ := hobj b₂ o₂ g₂
    simp [shareOk]
  · intro q b sz hq
    have hq : (heap0 l 0 .leaf).grow.get q = some (b, sz) := hq
    rw [hgr, PT.get_leaf] at hq; cases hq
  · intro c b d e
    have hb := hlt b c d e
    exact ⟨l[b], by rw [hget, if_pos hb, List.getElem?_eq_getElem hb]; rfl⟩

/-- A call, run from a world in which some rows lie as they should. -/
theorem run_rows {P : Program} {f : FuncId} {args : List Value} {l : List (PT Value)} {pl : List (Nat × Nat)} {ng : Nat} {Q : ARet → AHeap → Prop} (s : SC P f args (heapR ng l) Q) {w : World} (hl : pl.length = l.length) (hg : ∀ b : Nat, b < ng → pl[b]? = some (b, 0))
    (h : ∀ (b : Nat) (cs : PT Value) (c d : Nat), l[b]? = some cs → pl[b]? = some (c, d) → RowAt (gamR pl) w c d cs) {as : Array Value} (ha : VRs (gamR pl) args as.toList) :
    Calls P f as w fun e w' => (∃ r h' γ', Q r h' ∧ RR γ' r e) ∧ w'.os = w.os ∧ w'.tape = w.tape ∧ w'.output = w.output ∧ w.heap.size ≤ w'.heap.size ∧ ∀ c, c < w.heap.size → w'.heap[c]? = w.heap[c]? := by
  obtain ⟨r1, p1⟩ := relHR hl hg h
  refine callsIn_wide.1 (CallsIn.mono (s _ as w r1 ha) ?_)
  rintro e w' ⟨r, h', γ', q, _, rr, f⟩
  exact ⟨⟨r, h', γ', q, rr⟩, f.os, f.tape, f.output, f.size, fun c hc => (f.prot c hc (p1 c)).2⟩

/-- What was there is there still. -/
theorem RelH.kept {γ : Gam} {h : AHeap} {w w' : World} (r : RelH γ h w) (hs : w.heap.size ≤ w'.heap.size) (hk : ∀ c, c < w.heap.size → w'.heap[c]? = w.heap[c]?) : RelH γ h w' := by
  refine ⟨r.glob, fun b c d e => ⟨(r.dom b c d e).1, Nat.lt_of_lt_of_le (r.dom b c d e).2 hs⟩, fun b o e => ?_, r.inj, fun q b sz e => ?_⟩
  · obtain ⟨c, d, o', h1, h2, h3⟩ := r.obj b o e
    exact ⟨c, d, o', h1, by rw [hk c (r.dom _ _ _ h1).2]; exact h2, h3⟩
  · obtain ⟨c, s, m, arr, el, fz, h1, h2, h3, h4⟩ := r.grow q b sz e
    exact ⟨c, s, m, arr, el, fz, h1, h2, by rw [hk c (r.dom _ _ _ h1).2]; exact h3, h4⟩
theorem Fr.kept {γ : Gam} {h : AHeap} {w w' : World} (hos : w'.os = w.os) (ht : w'.tape = w.tape) (ho : w'.output = w.output) (hs : w.heap.size ≤ w'.heap.size) (hk : ∀ c, c < w.heap.size → w'.heap[c]? = w.heap[c]?) : Fr γ h w γ h w' :=
  ⟨Gam.le_refl γ, Nat.le_refl _, rfl, hos, ht, ho, hs, fun _ _ e => e, fun c hc p => ⟨p, hk c hc⟩, fun b c d e e' => by rw [e] at e'; cases e'⟩

/-- The variables, as they should lie. -/
def varsOk (h : AHeap) : Nat → List (List Value) → Bool
  | _, [] => true
  | b, vs :: l => bif Nat.blt b h.ng && vs.all flat then (match h.loadN b 0 vs.length with
    | some us => bif eqVs (eqV 3) us vs then varsOk h (Nat.succ b) l else false
    | none => false) else false

def rowsOf (l : List (List Value)) : List (PT Value) := l.map fun vs => PT.leaf.puts 0 vs

theorem varsOk_spec {γ : Gam} {h : AHeap} {w : World} (r : RelH γ h w) : ∀ (l : List (List Value)) (b : Nat), varsOk h b l = true → ∀ k vs, l[k]? = some vs → vs ≠ [] → CellsAt w (b + k) (PT.leaf.puts 0 vs)
  | vs0 :: l, b, e, k, vs, hk, hne => by
    unfold varsOk at e
    obtain ⟨hb, e⟩ := bif_true e
    simp only [Bool.and_eq_true] at hb
    split at e
    · rename_i us hl
      obtain ⟨heq, e⟩ := bif_true e
      cases k with
      | zero =>
        simp only [List.getElem?_cons_zero, Option.some.injEq] at hk
        subst hk
        have hus : us = vs0 := eqVs_eq (fun a b => eqV_eq 3 a b) heq
        subst hus
        have hg := r.glob b (Nat.le_of_ble_eq_true hb.1)
        cases hvs : us with
        | nil => exact absurd hvs hne
        | cons u0 ut =>
          rw [hvs] at hl
          simp only [List.length_cons, AHeap.loadN] at hl
          split at hl
          · rename_i cs md hobj
            obtain ⟨c, d, o', hγ, hw, ho⟩ := r.obj b _ hobj
            rw [hg, Option.some.injEq, Prod.mk.injEq] at hγ
            obtain ⟨rfl, rfl⟩ := hγ
            cases o' <;> simp only [OR] at ho
            rename_i arr el fz
            refine ⟨arr, el, fz, hw, fun i v hv => ?_⟩
            rw [PT.get_puts] at hv
            split at hv
            · rename_i hi
              simp only [Nat.sub_zero] at hv
              have hlt : i < ut.length + 1 := by have := hi.2; simp at this; omega
              have hcs := PT.gets_get _ _ _ _ hl i hlt
              rw [hv, Nat.zero_add] at hcs
              obtain ⟨v', h1, h2, _⟩ := ho i v hcs
              have hfl : flat v = true := by
                have hm := List.mem_of_getElem? hv
                rw [← hvs] at hm
                exact (List.all_eq_true.1 hb.2) v hm
              rw [h2.flat_inv hfl] at h1
              exact ⟨h1, hfl⟩
            · rw [PT.get_leaf] at hv; cases hv
          · cases hl
      | succ k =>
        have := varsOk_spec r l (Nat.succ b) e k vs (by simpa using hk) hne
        rwa [show Nat.succ b + k = b + (k + 1) from by omega] at this
    · cases e
  | [], _, _, _, _, hk, _ => by simp at hk

/-- A call without arguments whose run from the variables alone is known, among whatever else there is. -/
def keepEv (l : List (List Value)) (v : Value) (args : List Value) (h : AHeap) (K : ARet → AHeap → Bool) : Bool :=
  bif args.isEmpty && varsOk h 0 l then K (.ret v) h else false

theorem keepEv_ok {P : Program} {f : FuncId} {l : List (List Value)} {v : Value} (hv : flat v = true) (hne : ∀ vs ∈ l, vs ≠ []) (s : SC P f [] (heap0 (rowsOf l) 0 .leaf) (fun r _ => r = .ret v)) (args : List Value) (h : AHeap) (K : ARet → AHeap → Bool)
    (e : keepEv l v args h K = true) : SC P f args h (fun r h' => K r h' = true) := by
  unfold keepEv at e
  obtain ⟨hc, hK⟩ := bif_true e
  clear e
  simp only [Bool.and_eq_true] at hc
  obtain ⟨ha, hvo⟩ := hc
  have ha := List.isEmpty_iff.1 ha
  subst ha
  intro γ as w r1 r2
  have hcells : ∀ b cs, (rowsOf l)[b]? = some cs → CellsAt w b cs := by
    intro b cs hb
    unfold rowsOf at hb
    rw [List.getElem?_map] at hb
    cases hl : l[b]? with
    | none => rw [hl] at hb; cases hb
    | some vs =>
      rw [hl] at hb
      simp only [Option.map_some, Option.some.injEq] at hb
      subst hb
      have := varsOk_spec r1 l 0 hvo b vs hl (hne vs (List.mem_of_getElem? hl))
      rwa [Nat.zero_add] at this
  have has : as = #[] := by
    apply Array.toList_inj.1
    generalize hx : as.toList = x at r2
    cases r2; rfl
  subst has
  refine callsIn_wide.2 ((run_from s hcells (as := #[]) .nil).mono ?_)
  rintro en w' ⟨⟨r, h', γ', rfl, rr⟩, hos, ht, hout, hs, hk⟩
  cases en <;> simp only [RR] at rr
  have hvv := rr.flat_inv hv
  exact ⟨.ret v, h, γ, hK, r1.kept hs hk, by simp only [RR]; rw [hvv]; exact .flat hv, Fr.kept hos ht hout hs hk⟩

end
end Go.Abs

/- From an evaluated run to a row: what is laid, slices that came in, what a law's row says behind the call. -/
namespace Go.Abs
noncomputable section
open Go.ChangeShapes Go.WideShapes Go.RowKit Go.Deep

/-! ### What is laid -/
theorem laidVars_get {P : Program} {w : World} : ∀ {l : List (String × DataW Unit)} {ps : List MemPlace}, DataW.LaidVars P w l ps → ∀ {n : String} {d : DataW Unit}, (n, d) ∈ l →
    ∃ g t cs fuel p, P.globalNamed n = some g ∧ (P.globals[g]?).map (·.type) = some t ∧ w.var? P n = some cs ∧ DataW.trod (fun _ => ()) P w 0 (fun _ => true) false fuel t cs.toList = some (d, p)
  | [], _, _, _, _, hm => by cases hm
  | (_, _) :: l, ps, h, n, d, hm => by
    obtain ⟨g, t, cs, fuel, p, q, h1, h2, h3, h4, h5, _⟩ := h
    rcases List.mem_cons.1 hm with hm | hm
    · cases hm; exact ⟨g, t, cs, fuel, p, h1, h2, h3, h4⟩
    · exact laidVars_get h5 hm

/-- The variable's datum, its number and its type. -/
theorem laid_at {P : Program} {w : World} {l : List (String × DataW Unit)} (h : laidMet P l w) {n : String} {d : DataW Unit} (hm : (n, d) ∈ l) {g : Nat} {t : TypeId} (hg : P.globalNamed n = some g) (ht : (P.globals[g]?).map (·.type) = some t) :
    ∃ cs fuel p, w.var? P n = some cs ∧ DataW.trod (fun _ => ()) P w 0 (fun _ => true) false fuel t cs.toList = some (d, p) := by
  obtain ⟨ps, hl, _⟩ := h
  obtain ⟨g', t', cs, fuel, p, h1, h2, h3, h4⟩ := laidVars_get hl hm
  obtain rfl := Option.some.inj (hg.symm.trans h1)
  obtain rfl := Option.some.inj (ht.symm.trans h2)
  exact ⟨cs, fuel, p, h3, h4⟩

theorem cellsAt_of_var {P : Program} {w : World} {n : String} {g : Nat} {cs : Array Value} {vs : List Value} (hg : P.globalNamed n = some g) (h : w.var? P n = some cs) (hc : cs.toList = vs) (hf : vs.all flat = true) : CellsAt w g (PT.leaf.puts 0 vs) := by
  simp only [World.var?, hg, Option.bind_some] at h
  split at h
  · rename_i arr el fz hw
    simp only [Option.some.injEq] at h; subst h
    refine ⟨arr, el, fz, hw, fun i v hv => ?_⟩
    rw [PT.get_puts] at hv
    split at hv
    · simp only [Nat.sub_zero] at hv
      refine ⟨?_, List.all_eq_true.1 hf v (List.mem_of_getElem? hv)⟩
      rw [← hc] at hv; simpa using hv
    · rw [PT.get_leaf] at hv; cases hv
  · cases h

/-- A struct of three ints. -/
theorem cells_of_ints3 {H : Type} {enc : TypeId × Value → H} {P : Program} {w : World} {base : Nat} {sp : Nat → Bool} {held : Bool} {fuel : Nat} {t e : TypeId} {f0 f1 f2 : Field} {k : IntKind} {cs : List Value} {a b c : Int} {p : List MemPlace}
    (ht : P.underlying t = some (.struct #[f0, f1, f2])) (hct : P.cellsOf t = 3) (h0 : f0.type = e ∧ f0.offset = 0) (h1 : f1.type = e ∧ f1.offset = 1) (h2 : f2.type = e ∧ f2.offset = 2) (he : P.underlying e = some (.int k)) (hce : P.cellsOf e = 1)
    (h : DataW.trod enc P w base sp held fuel t cs = some (.agg [.lit (.int k a), .lit (.int k b), .lit (.int k c)], p)) : cs = [.int k a, .int k b, .int k c] := by
  obtain ⟨y0, y1, y2, n, hx, hl, g0, g1, g2⟩ := trod_struct3 ht h
  rw [hct] at hl
  rw [h0.1, h0.2, hce] at g0
  rw [h1.1, h1.2, hce] at g1
  rw [h2.1, h2.2, hce] at g2
  match cs, hl with
  | [c0, c1, c2], _ =>
    obtain ⟨n0, e0, rfl, _⟩ := DataW.trod_int he g0
    obtain ⟨n1, e1, rfl, _⟩ := DataW.trod_int he g1
    obtain ⟨n2, e2, rfl, _⟩ := DataW.trod_int he g2
    simp at hx e0 e1 e2
    obtain ⟨⟨rfl, rfl, rfl⟩, _⟩ := hx
    rw [e0, e1, e2]

/-- Rows that hold flat cells, wherever they lie. -/
theorem CellsAt.rowAt {w : World} {b : Nat} {cs : PT Value} (h : CellsAt w b cs) (γ : Gam) : RowAt γ w b 0 cs := by
  obtain ⟨arr, el, fz, h1, h2⟩ := h
  exact ⟨arr, el, fz, h1, fun i v hv => ⟨v, (h2 i v hv).1, .flat (h2 i v hv).2⟩⟩

/-! ### Slices that came in -/
/-- What is known of a slice whose elements take one cell. -/
structure SlIn (R : Value → Prop) (w : World) (v : Value) : Prop where
  as : (v = .slice none 0 0) ∨ (∃ a, v = .slice (some a) 0 0) ∨ (∃ c o n m arr el fz, v = .slice (some ⟨c, o, none⟩) n m ∧ n ≤ m ∧ n < 9223372036854775808 ∧ w.heap[c]? = some (.cells arr el fz) ∧ ∀ i, i < n → ∃ x, arr[i + o]? = some x ∧ R x)

theorem slice_in {H : Type} {enc : TypeId × Value → H} {P : Program} {w : World} {base : Nat} {held : Bool} {fuel : Nat} {t e : TypeId} {R : Value → Prop} {cs : List Value} {y : DataW H × List MemPlace}
    (ht : P.underlying t = some (.slice e)) (hce : P.cellsOf e = 1) (hR : ∀ n c x, DataW.trod enc P w base (fun _ => true) held n e [c] = some x → R c) (h : DataW.trod enc P w base (fun _ => true) held fuel t cs = some y) : ∃ v, cs = [v] ∧ SlIn R w v := by
  rcases DataW.trod_slice ht h with ⟨rfl, _⟩ | ⟨a, len, cap, elems, rest, n, _, rfl, _, _, hlc, hcap, hel, he, hr, _⟩
  · exact ⟨_, rfl, ⟨.inl rfl⟩⟩
  refine ⟨_, rfl, ⟨.inr ?_⟩⟩
  have hmax : cap < 9223372036854775808 := by have : maxLen = 9223372036854775807 := by decide
                                              omega
  have hcell : ∀ i, i < cap → ∃ x z, (w.cells? base (a.add (i * 1)) 1) = some [x] ∧ DataW.trod enc P w base (fun _ => true) held n e [x] = some z ∧ w.cell? (a.add i) = some x := by
    intro i hi
    rw [hce] at he hr
    have hz : ∃ z, (w.cells? base (a.add (i * 1)) 1).bind (DataW.trod enc P w base (fun _ => true) held n e) = some z := by
      by_cases hil : i < len
      · exact ⟨elems[i]'(by omega), by rw [he i hil]; exact List.getElem?_eq_getElem _⟩
      · obtain ⟨h1, h2⟩ := hr rfl
        have := h2 (i - len) (by omega)
        rw [show len + (i - len) = i from by omega] at this
        exact ⟨rest[i - len]'(by omega), by rw [this]; exact List.getElem?_eq_getElem _⟩
    obtain ⟨z, hz⟩ := hz
    cases hc : w.cells? base (a.add (i * 1)) 1 with
    | none => rw [hc] at hz; cases hz
    | some l =>
      rw [hc] at hz
      simp only [Option.bind_some] at hz
      have h1 : w.cells? base (a.add (i * 1)) 1 = some l := hc
      unfold World.cells? at hc
      split at hc
      · have hr1 : List.range 1 = [0] := rfl
        rw [hr1] at hc
        simp only [List.mapM_cons, List.mapM_nil, Option.bind_eq_bind, Option.bind_eq_some_iff, Option.pure_def, Option.some.injEq] at hc
        obtain ⟨x, hx, r, hr', rfl⟩ := hc
        subst hr'
        refine ⟨x, z, rfl, hz, ?_⟩
        have : (a.add (i * 1)).add 0 = a.add i := by rw [Nat.mul_one]; rfl
        rw [this] at hx
        exact hx
      · cases hc
  by_cases hc0 : cap = 0
  · subst hc0
    obtain rfl : len = 0 := by omega
    exact .inl ⟨a, rfl⟩
  · right
    obtain ⟨x0, _, _, _, hx0⟩ := hcell 0 (by omega)
    have ha0 : a.add 0 = a := rfl
    rw [ha0] at hx0
    obtain ⟨c, o, sp⟩ := a
    unfold World.cell? at hx0
    split at hx0
    · rename_i arr el fz hw
      split at hx0
      · cases hx0
      · rename_i hsp
        have : sp = none := by cases sp <;> simp_all
        subst this
        refine ⟨c, o, len, cap, arr, el, fz, rfl, hlc, by omega, hw, fun i hi => ?_⟩
        obtain ⟨x, z, _, h2, h3⟩ := hcell i (by omega)
        refine ⟨x, ?_, hR _ _ _ h2⟩
        have hadd : (⟨c, o, none⟩ : Addr).add i = ⟨c, o + i, none⟩ := by
          unfold Addr.add; split
          · rename_i h; subst h; rfl
          · rfl
        rw [hadd] at h3
        unfold World.cell? at h3
        simp only at hw
        rw [hw] at h3
        simp only [Option.isSome_none, Bool.false_eq_true, if_false] at h3
        rw [Nat.add_comm]; exact h3
    · cases hx0

def repT (t : Value) : Nat → List Value
  | 0 => []
  | n + 1 => t :: repT t n
theorem repT_get (t : Value) : ∀ (n i : Nat) (v : Value), (repT t n)[i]? = some v → v = t ∧ i < n
  | 0, i, v, h => by simp [repT] at h
  | n + 1, 0, v, h => by simp [repT] at h; exact ⟨h.symm, by omega⟩
  | n + 1, i + 1, v, h => by
    have := repT_get t n i v (by simpa [repT] using h)
    exact ⟨this.1, by omega⟩
theorem repT_length (t : Value) : ∀ n, (repT t n).length = n
  | 0 => rfl
  | n + 1 => by simp [repT, repT_length t n]

theorem rowAt_rep {γ : Gam} {w : World} {c o n : Nat} {arr : Array Value} {el : TypeId} {fz : Nat × Nat} {T : Value} {R : Value → Prop} (hT : ∀ v, R v → VR γ T v) (hw : w.heap[c]? = some (.cells arr el fz)) (h : ∀ i, i < n → ∃ x, arr[i + o]? = some x ∧ R x) :
    RowAt γ w c o (PT.leaf.puts 0 (repT T n)) := by
  refine ⟨arr, el, fz, hw, fun i v hv => ?_⟩
  rw [PT.get_puts] at hv
  split at hv
  · rename_i hi
    obtain ⟨rfl, hlt⟩ := repT_get T n (i - 0) v hv
    obtain ⟨x, h1, h2⟩ := h i (by simpa using hlt)
    exact ⟨x, h1, hT x h2⟩
  · rw [PT.get_leaf] at hv; cases hv

/-! ### Behind the call -/
theorem trodAll_below {H : Type} {enc : TypeId × Value → H} {P : Program} (hl : laidOutB P = true) {W W' : World} (hb : Below W.heap.size W W') : ∀ {ts : List TypeId} {vs : List Value} {ds : List (DataW H)} {p : List MemPlace}, (∀ t ∈ ts, P.readableRec t = true ∧ t < P.types.size) →
    DataW.TrodAll enc P W 0 (fun _ => true) true ts vs ds p → (∀ x ∈ p, x.block < W.heap.size) → DataW.TrodAll enc P W' 0 (fun b => decide (b < W.heap.size)) true ts vs ds p
  | [], [], [], _, _, h, _ => h
  | t :: ts, v :: vs, d :: ds, p, ht, h, hlt => by
    obtain ⟨p1, p2, h1, h2, rfl⟩ := h
    exact ⟨p1, p2, Below.trod hl (ht t List.mem_cons_self).1 (ht t List.mem_cons_self).2 h1 hb (fun x hx => hlt x (by simp [hx])), trodAll_below hl hb (fun t' h' => ht t' (List.mem_cons_of_mem _ h')) h2 (fun x hx => hlt x (by simp [hx])), rfl⟩
  | [], _ :: _, _, _, _, h, _ => h.elim
  | [], [], _ :: _, _, _, h, _ => h.elim
  | _ :: _, [], _, _, _, h, _ => h.elim
  | _ :: _, _ :: _, [], _, _, h, _ => h.elim

/-- What a law's row asks behind the call, where nothing that was there has changed. -/
theorem law_post {H : Type} {enc : TypeId × Value → H} {P : Program} {s : ChangeSpec} {fn : Func} {apart : Bool} {W W' : World} {args : Array Value} {ds gs : List (DataW H)} {before : List MemPlace} {tb : TypeId}
    (hl : laidOutB P = true) (hr : fn.resultTypes = #[tb]) (hb : P.underlying tb = some .bool) (hp : ∀ t ∈ fn.params.toList, P.readableRec t = true ∧ t < P.types.size) (hv : s.vars = [])
    (hs : s.fn H (ds ++ gs) = { results := [.lit (.bool true)], args := ds }) (hW : DataW.Whole enc P fn.params.toList s.vars apart W args.toList ds gs before) (hbl : Below W.heap.size W W') :
    s.post enc P fn apart true false false W args (.bool true) W' := by
  have hlt : ∀ x ∈ before, x.block < W.heap.size := hW.lt
  obtain ⟨p, q, hA, hV, rfl, hfz, hnd⟩ := id hW
  refine ⟨ds, gs, _, [], p, [], hW, ?_, ?_, ?_, hbl.frame _, fun h => by cases h⟩
  · rw [hs, hr]; exact trodAll_mk1 (shut_bool hb true)
  · rw [hs]; exact trodAll_below hl hbl hp hA (fun x hx => hlt x (by simp [hx]))
  · rw [hs, hv]; exact rfl

/-- A run, and the row behind it. -/
theorem below_of_run {P : Program} {f : FuncId} {args : Array Value} {W : World} {Q : ARet → AHeap → Prop} (hQ : ∀ r h, Q r h → r = .ret (.bool true))
    (c : Calls P f args W fun e w' => (∃ r h' γ', Q r h' ∧ RR γ' r e) ∧ w'.os = W.os ∧ w'.tape = W.tape ∧ w'.output = W.output ∧ W.heap.size ≤ w'.heap.size ∧ ∀ c, c < W.heap.size → w'.heap[c]? = W.heap[c]?) :
    Calls P f args W fun e w' => e = .returned (.bool true) ∧ Below W.heap.size W w' := by
  refine c.mono ?_
  rintro e w' ⟨⟨r, h', γ', q, rr⟩, h1, h2, h3, h4, h5⟩
  obtain rfl := hQ r h' q
  cases e <;> simp only [RR] at rr
  exact ⟨by rw [rr.flat_inv rfl], ⟨h1, h2, h3, h4, h5⟩⟩

end
end Go.Abs
