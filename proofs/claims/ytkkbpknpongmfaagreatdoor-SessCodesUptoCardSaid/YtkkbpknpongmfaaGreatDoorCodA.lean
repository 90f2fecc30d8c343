/- The package pack: contracts of what puts. -/
import Derived.Test.YtkkbpknpongmfaaGreatDoorEnv
import Derived.Test.YtkkbpknpongmfaaGreatDoorAbsD
import Derived.KernelRfl
import Derived.Test.YtkkbpknpongmfaaGreatDoorProg
namespace Go.Proofs.YtkkbpknpongmfaaGreatDoor
open Go Go.Abs Classical
noncomputable section

theorem mixed : Tryz.prog.follows .mixedOrders = true := by kernel_rfl
abbrev U : Low := semU Tryz.prog E

/-- The byte of a number at a place. -/
def byteAt (x : Int) (i : Nat) : Value := .int .u8 (IntKind.u8.wrap (x.fdiv (2 ^ (8 * i))))
def be8 (x : Int) : List Value := [byteAt x 7, byteAt x 6, byteAt x 5, byteAt x 4, byteAt x 3, byteAt x 2, byteAt x 1, byteAt x 0]
def be4 (x : Int) : List Value := [byteAt x 3, byteAt x 2, byteAt x 1, byteAt x 0]

theorem bytesOk : ElOk E 50 5 1 := ⟨by kernel_rfl, Tryz.t5, .int .u8 0, by kernel_rfl, rfl, rfl, rfl, rfl⟩

/-- A copy, and bytes behind it. -/
def hiF (xs : List Value) (b : Value) (h : AHeap) (K : ARet → AHeap → Bool) : Bool := match E.appendA h 50 50 (.slice none 0 0) b with
  | some (v, h') => putN E 50 xs v h' fun v h => K (.ret v) h
  | none => false
theorem high64_ev (b : Value) (x : Int) (h : AHeap) (K : ARet → AHeap → Bool) : evCall E U 67 [b, .int .u64 x, .int .i64 8] h K = hiF (be8 x) b h K := by kernel_rfl
theorem high32_ev (b : Value) (x : Int) (h : AHeap) (K : ARet → AHeap → Bool) : evCall E U 95 [b, .int .u32 x, .int .i64 4] h K = hiF (be4 x) b h K := by kernel_rfl

/-- A call gives a slice of new memory that holds so much; what was there is as it was. -/
def Gives (h : AHeap) (l : List Value) (r : ARet) (h' : AHeap) : Prop := ∃ v, r = .ret v ∧ Own h.next h' v l ∧ Keep h.next h h'

theorem high_ok {h : AHeap} {b : Value} {l xs : List Value} (hb : Sl h.next h b l) (ho : l.all oneCell = true) (hx : xs.all oneCell = true) (hn : l.length + xs.length < 4294967296) (Q : ARet → AHeap → Prop) (hq : ∀ r h', Gives h (l ++ xs) r h' → Q r h') :
    hiF xs b h (fun r h' => decide (Q r h')) = true := by
  obtain ⟨v, h1, e, o1, k1⟩ := own_append bytesOk (Nat.le_refl h.next) .nil hb ho (by simp; omega) (by simp; omega)
  unfold hiF
  simp only [e]
  rw [List.nil_append] at o1
  exact putN_ok bytesOk xs k1.next o1 hx (by omega) (by omega) fun v' h' o2 k2 => decide_eq_true (hq _ _ ⟨v', rfl, o2, k1.trans k2⟩)

theorem high64 {h : AHeap} {b : Value} {l : List Value} {x : Int} (hb : Sl h.next h b l) (ho : l.all oneCell = true) (hn : l.length + 8 < 4294967296) : SC Tryz.prog 67 [b, .int .u64 x, .int .i64 8] h (Gives h (l ++ be8 x)) := by
  apply sc_of_evU E_ok mixed
  rw [high64_ev]
  exact high_ok (xs := be8 x) hb ho rfl hn _ fun _ _ q => q
theorem high32 {h : AHeap} {b : Value} {l : List Value} {x : Int} (hb : Sl h.next h b l) (ho : l.all oneCell = true) (hn : l.length + 4 < 4294967296) : SC Tryz.prog 95 [b, .int .u32 x, .int .i64 4] h (Gives h (l ++ be4 x)) := by
  apply sc_of_evU E_ok mixed
  rw [high32_ev]
  exact high_ok (xs := be4 x) hb ho rfl hn _ fun _ _ q => q

/-- What is done with a result. -/
def kRet (K : ARet → AHeap → Bool) (r : ARet) (h : AHeap) : Bool := match r with
  | .ret v => K (.ret v) h
  | .pan _ => false
theorem kRet_of {Q : ARet → AHeap → Prop} {h : AHeap} {l : List Value} {r : ARet} {h' : AHeap} (g : Gives h l r h') (hq : ∀ r h', Gives h l r h' → Q r h') : kRet (fun r h' => decide (Q r h')) r h' = true := by
  obtain ⟨v, rfl, o, k⟩ := g
  exact decide_eq_true (hq _ _ ⟨v, rfl, o, k⟩)

theorem put64_ev (b : Value) (x : Int) (h : AHeap) (K : ARet → AHeap → Bool) : evCall E U 33 [b, .int .u64 x] h K = semCall Tryz.prog 67 [b, .int .u64 x, .int .i64 8] h (kRet K) := by kernel_rfl
theorem put64 {h : AHeap} {b : Value} {l : List Value} {x : Int} (hb : Sl h.next h b l) (ho : l.all oneCell = true) (hn : l.length + 8 < 4294967296) : SC Tryz.prog 33 [b, .int .u64 x] h (Gives h (l ++ be8 x)) := by
  apply sc_of_evU E_ok mixed
  rw [put64_ev]
  exact semCall_of (high64 hb ho hn) fun r h' g => kRet_of g fun _ _ q => q
theorem put32_ev (b : Value) (x : Int) (h : AHeap) (K : ARet → AHeap → Bool) : evCall E U 68 [b, .int .u32 x] h K = semCall Tryz.prog 95 [b, .int .u32 x, .int .i64 4] h (kRet K) := by kernel_rfl
theorem put32 {h : AHeap} {b : Value} {l : List Value} {x : Int} (hb : Sl h.next h b l) (ho : l.all oneCell = true) (hn : l.length + 4 < 4294967296) : SC Tryz.prog 68 [b, .int .u32 x] h (Gives h (l ++ be4 x)) := by
  apply sc_of_evU E_ok mixed
  rw [put32_ev]
  exact semCall_of (high32 hb ho hn) fun r h' g => kRet_of g fun _ _ q => q

/-- A number, as what is put: one below 0 as 0. -/
def numU (n : Int) : Int := IntKind.u64.wrap (bif (Int.decLt n 0).decide then 0 else n)
theorem putNum_ev (b : Value) (n : Int) (h : AHeap) (K : ARet → AHeap → Bool) : evCall E U 32 [b, .int .i64 n] h K = semCall Tryz.prog 33 [b, .int .u64 (numU n)] h (kRet K) := by kernel_rfl
theorem putNum {h : AHeap} {b : Value} {l : List Value} {n : Int} (hb : Sl h.next h b l) (ho : l.all oneCell = true) (hn : l.length + 8 < 4294967296) : SC Tryz.prog 32 [b, .int .i64 n] h (Gives h (l ++ be8 (numU n))) := by
  apply sc_of_evU E_ok mixed
  rw [putNum_ev]
  exact semCall_of (put64 hb ho hn) fun r h' g => kRet_of g fun _ _ q => q

/-- Behind a call, one append. -/
def kApp (s : Value) (K : ARet → AHeap → Bool) (r : ARet) (h : AHeap) : Bool := match r with
  | .ret v => (match E.appendA h 50 50 v s with
    | some (v', h') => K (.ret v') h'
    | none => false)
  | .pan _ => false
def lenU (n : Nat) : Int := IntKind.u32.wrap (.ofNat n)
theorem put_ev (b : Value) (bb o n k : Nat) (h : AHeap) (K : ARet → AHeap → Bool) : evCall E U 34 [b, .slice (some ⟨bb, o, none⟩) n k] h K = semCall Tryz.prog 68 [b, .int .u32 (lenU n)] h (kApp (.slice (some ⟨bb, o, none⟩) n k) K) := by kernel_rfl
theorem put_ev0 (b : Value) (h : AHeap) (K : ARet → AHeap → Bool) : evCall E U 34 [b, .slice none 0 0] h K = semCall Tryz.prog 68 [b, .int .u32 (lenU 0)] h (kApp (.slice none 0 0) K) := by kernel_rfl
theorem put {h : AHeap} {b s : Value} {l ls : List Value} (hb : Sl h.next h b l) (hs : Sl h.next h s ls) (ho : l.all oneCell = true) (hos : ls.all oneCell = true) (hn : l.length + 4 + ls.length < 4294967296) : SC Tryz.prog 34 [b, s] h (Gives h (l ++ be4 (lenU ls.length) ++ ls)) := by
  apply sc_of_evU E_ok mixed
  have key : semCall Tryz.prog 68 [b, .int .u32 (lenU ls.length)] h (kApp s fun r h' => decide (Gives h (l ++ be4 (lenU ls.length) ++ ls) r h')) = true := by
    refine semCall_of (put32 hb ho (by omega)) ?_
    rintro r h1 ⟨v, rfl, o1, k1⟩
    have hl4 : (be4 (lenU ls.length)).length = 4 := rfl
    obtain ⟨v', h', e, o2, k2⟩ := own_append bytesOk k1.next o1 (hs.keep k1 k1.next) hos (by simp [hl4]; omega) (by simp [hl4]; omega)
    unfold kApp
    simp only [e]
    exact decide_eq_true ⟨v', rfl, o2, k1.trans k2⟩
  cases hs with
  | nil => rw [put_ev0]; exact key
  | row h1 h2 => rw [put_ev]; exact key
end
end Go.Proofs.YtkkbpknpongmfaaGreatDoor

/- The reader of pack: what holds of it; its simple functions. -/
namespace Go.Proofs.YtkkbpknpongmfaaGreatDoor
open Go Go.Abs Classical
noncomputable section
noncomputable abbrev ptr (p : Nat) : Value := .pointer (some ⟨p, 0, none⟩)
noncomputable abbrev pto (p o : Nat) : Value := .pointer (some ⟨p, o, none⟩)
noncomputable abbrev unit : Value := .tuple #[]
noncomputable abbrev PP := Tryz.prog
/-- Bytes, as values. -/
def bys (l : List UInt8) : List Value := l.map fun c => .int .u8 (.ofNat c.toNat)
def str (l : List UInt8) : Value := .string ⟨⟨l⟩⟩
theorem bys_length (l : List UInt8) : (bys l).length = l.length := by simp [bys]
theorem bys_take (l : List UInt8) (n : Nat) : (bys l).take n = bys (l.take n) := by simp [bys, List.map_take]
theorem bys_drop (l : List UInt8) (n : Nat) : (bys l).drop n = bys (l.drop n) := by simp [bys, List.map_drop]
theorem bys_append (l m : List UInt8) : bys (l ++ m) = bys l ++ bys m := by simp [bys]
theorem bys_one (l : List UInt8) : (bys l).all oneCell = true := by simp [bys, oneCell]

theorem ti50 : E.ti.get 50 = some Tryz.t50 := by kernel_rfl
theorem ti89 : E.ti.get 89 = some Tryz.t89 := by kernel_rfl
theorem ti4 : E.ti.get 4 = some Tryz.t4 := by kernel_rfl
theorem ti3 : E.ti.get 3 = some Tryz.t3 := by kernel_rfl
theorem ti5 : E.ti.get 5 = some Tryz.t5 := by kernel_rfl
theorem un50 : E.und 50 = some (.slice 5) := by kernel_rfl
theorem un89 : E.und 89 = some (.int .i64) := by kernel_rfl
theorem un4 : E.und 4 = some .bool := by kernel_rfl
theorem un3 : E.und 3 = some (.int .i64) := by kernel_rfl
theorem un5 : E.und 5 = some (.int .u8) := by kernel_rfl

/-- What is left. -/
def Rest (z : Prop) (p B : Nat) (h : AHeap) (v : Value) (l : List UInt8) : Prop := (z ∧ l = [] ∧ v = .slice none 0 0) ∨ SlX p B h v (bys l)
theorem Rest.keep {z : Prop} {p B : Nat} {h h' : AHeap} {v : Value} {l : List UInt8} (r : Rest z p B h v l) (k : KeepR p B h h') {B' : Nat} (hb : B ≤ B') : Rest z p B' h' v l := r.imp id fun x => x.keep k hb
theorem Rest.len {z : Prop} {p B : Nat} {h : AHeap} {v : Value} {l : List UInt8} (r : Rest z p B h v l) (h' : AHeap) : lenS 5 v h' = some (.int .i64 (.ofNat l.length)) := by
  rcases r with ⟨_, e, rfl⟩ | hv
  · rw [e]; rfl
  · rw [← bys_length]; cases hv; rfl
/-- A reader at p, of which so much is left, and its error; nil is left behind an error (or, where z, of nothing). -/
structure Rd (z : Prop) (p : Nat) (h : AHeap) (s : List UInt8 × Int) : Prop where
  lt : p < h.next
  inv : s.2 = 0 ∨ s.1 = []
  get : ∃ cs v, h.get p = some (.cells cs (.rw [])) ∧ cs.get 0 = some v ∧ cs.get 1 = some (.int .i64 s.2) ∧ cs.get 2 = some (.bool true) ∧ Rest (z ∨ s.2 ≠ 0) p p h v s.1
theorem Rd.load0 {z : Prop} {p : Nat} {h : AHeap} {s : List UInt8 × Int} (r : Rd z p h s) : ∃ v, E.loadVar h 50 p 0 = some v ∧ Rest (z ∨ s.2 ≠ 0) p p h v s.1 := by
  obtain ⟨cs, v, hg, h0, _, _, hr⟩ := r.get
  exact ⟨v, load_cell ti50 un50 rfl hg h0, hr⟩
theorem Rd.load1 {z : Prop} {p : Nat} {h : AHeap} {s : List UInt8 × Int} (r : Rd z p h s) : E.loadVar h 89 p 1 = some (.int .i64 s.2) := by
  obtain ⟨cs, v, hg, _, h1, _⟩ := r.get
  exact load_cell ti89 un89 rfl hg h1
theorem Rd.load2 {z : Prop} {p : Nat} {h : AHeap} {s : List UInt8 × Int} (r : Rd z p h s) : E.loadVar h 4 p 2 = some (.bool true) := by
  obtain ⟨cs, v, hg, _, _, h2, _⟩ := r.get
  exact load_cell ti4 un4 rfl hg h2
theorem Rd.keep {z : Prop} {p : Nat} {h h' : AHeap} {s : List UInt8 × Int} (r : Rd z p h s) {B : Nat} (k : Keep B h h') (hB : p < B) : Rd z p h' s := by
  obtain ⟨h1, h2, cs, v, hg, h3, h4, h5, h6⟩ := r
  exact ⟨Nat.lt_of_lt_of_le h1 k.next, h2, cs, v, by rw [k.get p hB]; exact hg, h3, h4, h5, h6.keep ((k.keepR p).mono (Nat.le_of_lt hB)) (Nat.le_refl _)⟩
theorem Rd.weak {z : Prop} {p : Nat} {h : AHeap} {s : List UInt8 × Int} (r : Rd False p h s) : Rd z p h s := by
  obtain ⟨h1, h2, cs, v, hg, h3, h4, h5, h6⟩ := r
  exact ⟨h1, h2, cs, v, hg, h3, h4, h5, h6.imp (fun x => ⟨.inr (x.1.resolve_left id), x.2⟩) id⟩
/-- A store of what is left. -/
theorem Rd.store0 {z z' : Prop} {p : Nat} {h : AHeap} {s : List UInt8 × Int} (r : Rd z p h s) {l : List UInt8} {v : Value} (hi : s.2 = 0 ∨ l = []) (hv : Rest (z' ∨ s.2 ≠ 0) p p h v l) : ∃ h', E.storeVar h 50 p 0 v = some h' ∧ Rd z' p h' (l, s.2) ∧ KeepR p h.next h h' := by
  obtain ⟨cs, u, hg, h0, h1, h2, _⟩ := r.get
  have hc : cellsL v = [v] ∧ oneCell v = true := by
    rcases hv with ⟨_, _, rfl⟩ | hv
    · exact ⟨rfl, rfl⟩
    · cases hv; exact ⟨rfl, rfl⟩
  refine ⟨h.set p (.cells (cs.puts 0 [v]) (.rw [])), store_cell ti50 rfl hg h0 hc.1 hc.2, ⟨r.lt, hi, cs.puts 0 [v], v, ?_, ?_, ?_, ?_, hv.keep (KeepR.set p p h _) (Nat.le_refl _)⟩, KeepR.set p h.next h _⟩
  · rw [AHeap.get_set, if_pos rfl]
  · rw [PT.get_puts]; simp
  · rw [PT.get_puts]; simpa using h1
  · rw [PT.get_puts]; simpa using h2
/-- A store of an error. -/
theorem Rd.store1 {z : Prop} {p : Nat} {h : AHeap} {s : List UInt8 × Int} (r : Rd z p h s) {e : Int} (he : e ≠ 0) : ∃ h1 h2, E.storeVar h 89 p 1 (.int .i64 e) = some h1 ∧ E.storeVar h1 50 p 0 (.slice none 0 0) = some h2 ∧ Rd False p h2 ([], e) ∧ KeepR p h.next h h2 := by
  obtain ⟨cs, u, hg, h0, h1, h2, _⟩ := r.get
  have e1 : E.storeVar h 89 p 1 (.int .i64 e) = some (h.set p (.cells (cs.puts 1 [.int .i64 e]) (.rw []))) := store_cell ti89 rfl hg h1 rfl rfl
  have hg2 : (h.set p (.cells (cs.puts 1 [.int .i64 e]) (.rw []))).get p = some (.cells (cs.puts 1 [.int .i64 e]) (.rw [])) := by rw [AHeap.get_set, if_pos rfl]
  have hc0 : (cs.puts 1 [.int .i64 e]).get 0 = some u := by rw [PT.get_puts]; simpa using h0
  have e2 : E.storeVar (h.set p (.cells (cs.puts 1 [.int .i64 e]) (.rw []))) 50 p 0 (.slice none 0 0) = some _ := store_cell ti50 rfl hg2 hc0 rfl rfl
  refine ⟨_, _, e1, e2, ⟨r.lt, .inr rfl, (cs.puts 1 [.int .i64 e]).puts 0 [.slice none 0 0], .slice none 0 0, ?_, ?_, ?_, ?_, .inl ⟨.inr he, rfl, rfl⟩⟩, (KeepR.set p h.next h _).trans (KeepR.set p h.next _ _)⟩
  · rw [AHeap.get_set, if_pos rfl]
  · rw [PT.get_puts]; simp
  · rw [PT.get_puts, PT.get_puts]; simp
  · rw [PT.get_puts, PT.get_puts]; simpa using h2

theorem ok_ev (p : Nat) (e : Int) (h : AHeap) (Q : ARet → AHeap → Prop) : orCall PP E 69 [ptr p] h (.nb (.val (.bool true) (.val (.int .i64 e) (.br .stop .stop)))) Q =
    (E.loadVar h 4 p 2 = some (.bool true) ∧ E.loadVar h 89 p 1 = some (.int .i64 e) ∧ ((decide (e = 0) = true → Q (.ret (.bool true)) h) ∧ (decide (e = 0) = false → Q (.ret (.bool false)) h))) := by kernel_rfl
theorem rd_ok {z : Prop} {p : Nat} {h : AHeap} {s : List UInt8 × Int} (r : Rd z p h s) : SC PP 69 [ptr p] h (fun x h' => x = .ret (.bool (decide (s.2 = 0))) ∧ h' = h) := by
  apply orCall_sound E_ok mixed (.nb (.val (.bool true) (.val (.int .i64 s.2) (.br .stop .stop))))
  rw [ok_ev]
  refine ⟨r.load2, r.load1, fun h => ⟨?_, rfl⟩, fun h => ⟨?_, rfl⟩⟩ <;> rw [h]

theorem fail_ev (p : Nat) (e : Int) (h h1 h2 : AHeap) (Q : ARet → AHeap → Prop) : orCall PP E 70 [ptr p, .int .i64 e] h (.eff undef h1 (.eff undef h2 .stop)) Q =
    (E.storeVar h 89 p 1 (.int .i64 e) = some h1 ∧ undef = undef ∧ E.storeVar h1 50 p 0 (.slice none 0 0) = some h2 ∧ undef = undef ∧ Q (.ret unit) h2) := by kernel_rfl
theorem rd_fail {z : Prop} {p : Nat} {h : AHeap} {s : List UInt8 × Int} (r : Rd z p h s) {e : Int} (he : e ≠ 0) : SC PP 70 [ptr p, .int .i64 e] h (fun x h' => x = .ret unit ∧ Rd False p h' ([], e) ∧ KeepR p h.next h h') := by
  obtain ⟨h1, h2, e1, e2, q1, q2⟩ := r.store1 he
  apply orCall_sound E_ok mixed (.eff undef h1 (.eff undef h2 .stop))
  rw [fail_ev]
  exact ⟨e1, rfl, e2, rfl, rfl, q1, q2⟩

/-- What next gives. -/
def nxt (n : Nat) (s : List UInt8 × Int) : Option (List UInt8) × (List UInt8 × Int) :=
  if s.2 = 0 then (if n ≤ s.1.length then (some (s.1.take n), (s.1.drop n, 0)) else (none, ([], 4))) else (none, ([], s.2))

theorem next_ev0 (p : Nat) (n : Int) (h : AHeap) (Q : ARet → AHeap → Prop) : orCall PP E 73 [ptr p, .int .i64 n] h (.call (α := Unit) (fun _ => .bool false) (fun _ h' => h' = h) fun _ _ => .stop) Q =
    (SC PP 69 [ptr p] h (fun r h' => ∃ _ : Unit, r = .ret (.bool false) ∧ h' = h) ∧ ∀ (_ : Unit) (h' : AHeap), h' = h → Q (.ret (.tuple #[.slice none 0 0, .bool false])) h') := by kernel_rfl
theorem next_ev1 (p n : Nat) (v : Value) (m : Int) (h : AHeap) (c : Unit → AHeap → Prop) (Q : ARet → AHeap → Prop) : orCall PP E 73 [ptr p, .int .i64 (.ofNat n)] h
      (.call (α := Unit) (fun _ => .bool true) (fun _ h' => h' = h) fun _ _ => .val v (.val (.int .i64 m) (.br (.call (α := Unit) (fun _ => unit) c fun _ _ => .stop) .stop))) Q =
    (SC PP 69 [ptr p] h (fun r h' => ∃ _ : Unit, r = .ret (.bool true) ∧ h' = h) ∧ ∀ (_ : Unit) (h' : AHeap), h' = h →
      (E.loadVar h' 50 p 0 = some v ∧ lenS 5 v h' = some (.int .i64 m) ∧ ((decide ((Int.ofNat n) > m) = true → (SC PP 70 [ptr p, .int .i64 4] h' (fun r h' => ∃ _ : Unit, r = .ret unit ∧ c () h') ∧ ∀ (_ : Unit) (h2 : AHeap), c () h2 → Q (.ret (.tuple #[.slice none 0 0, .bool false])) h2)) ∧
       (decide ((Int.ofNat n) > m) = false → False)))) := by kernel_rfl
theorem next_ev2 (p b o m k n : Nat) (u u2 : Value) (h h2 : AHeap) (Q : ARet → AHeap → Prop) : orCall PP E 73 [ptr p, .int .i64 (.ofNat n)] h
      (.call (α := Unit) (fun _ => .bool true) (fun _ h' => h' = h) fun _ _ => .val (.slice (some ⟨b, o, none⟩) m k) (.val (.int .i64 (.ofNat m)) (.br .stop (.val (.slice (some ⟨b, o, none⟩) m k) (.val u (.val (.slice (some ⟨b, o, none⟩) m k) (.val u2 (.eff undef h2 .stop)))))))) Q =
    (SC PP 69 [ptr p] h (fun r h' => ∃ _ : Unit, r = .ret (.bool true) ∧ h' = h) ∧ ∀ (_ : Unit) (h' : AHeap), h' = h →
      (E.loadVar h' 50 p 0 = some (.slice (some ⟨b, o, none⟩) m k) ∧ some (Value.int .i64 (.ofNat m)) = some (Value.int .i64 (.ofNat m)) ∧ ((decide ((Int.ofNat n) > (Int.ofNat m)) = true → False) ∧ (decide ((Int.ofNat n) > (Int.ofNat m)) = false →
        E.loadVar h' 50 p 0 = some (.slice (some ⟨b, o, none⟩) m k) ∧ sl3 b o k 0 n = some u ∧ E.loadVar h' 50 p 0 = some (.slice (some ⟨b, o, none⟩) m k) ∧ sl3 b o k n m = some u2 ∧ E.storeVar h' 50 p 0 u2 = some h2 ∧ undef = undef ∧ Q (.ret (.tuple #[u, .bool true])) h2)))) := by kernel_rfl
/-- What next gives, as values. -/
def NxR (p : Nat) (h : AHeap) (o : Option (List UInt8)) (x : ARet) (h' : AHeap) : Prop := match o with
  | some l => ∃ u, x = .ret (.tuple #[u, .bool true]) ∧ SlR p p h' u (bys l)
  | none => x = .ret (.tuple #[.slice none 0 0, .bool false])
theorem rd_next {z : Prop} {p : Nat} {h : AHeap} {s : List UInt8 × Int} (r : Rd z p h s) (n : Nat) (hn : 0 < n ∨ ¬z) : SC PP 73 [ptr p, .int .i64 (.ofNat n)] h (fun x h' => NxR p h (nxt n s).1 x h' ∧ Rd False p h' (nxt n s).2 ∧ KeepR p h.next h h') := by
  have hok := rd_ok r
  by_cases h0 : s.2 = 0
  · obtain ⟨v, hv, hr⟩ := r.load0
    by_cases hl : n ≤ s.1.length
    · have hx : SlX p p h v (bys s.1) := by
        rcases hr with ⟨hz, he, _⟩ | hx
        · rw [he] at hl
          simp at hl
          rcases hz with hz | hz
          · rcases hn with hn | hn
            · omega
            · exact (hn hz).elim
          · exact (hz h0).elim
        · exact hx
      have hx' := hx
      cases hx' with
      | row g1 g2 g3 g4 g5 g6 =>
        rename_i b o k
        obtain ⟨g7, g8, g9, g10, g11⟩ := slx_parts hx (n := n) (by rw [bys_length]; exact hl)
        rw [bys_drop] at g11
        obtain ⟨h2, e2, r2, k2⟩ := r.store0 (z' := False) (l := s.1.drop n) (.inl h0) (.inr g11)
        apply orCall_sound E_ok mixed (.call (α := Unit) (fun _ => .bool true) (fun _ h' => h' = h) fun _ _ => .val (.slice (some ⟨b, o, none⟩) (bys s.1).length k) (.val (.int .i64 (.ofNat (bys s.1).length)) (.br .stop (.val (.slice (some ⟨b, o, none⟩) (bys s.1).length k) (.val (.slice (some ⟨b, o, none⟩) n k) (.val (.slice (some ⟨b, o, none⟩) (bys s.1).length k) (.val (.slice (some ⟨b, o + n * 1, none⟩) ((bys s.1).length - n) (subCap k n none)) (.eff undef h2 .stop))))))))
        rw [next_ev2]
        refine ⟨hok.mono ?_, ?_⟩
        · rintro x h' ⟨rfl, rfl⟩
          exact ⟨(), by rw [h0]; rfl, rfl⟩
        · rintro _ h' rfl
          refine ⟨hv, rfl, fun hc => ?_, fun _ => ⟨hv, g8, hv, g10, e2, rfl, ?_⟩⟩
          · have := of_decide_eq_true hc
            simp only [bys_length, Int.ofNat_eq_natCast] at this
            omega
          · have hnx : nxt n s = (some (s.1.take n), (s.1.drop n, s.2)) := by unfold nxt; rw [if_pos h0, if_pos hl, h0]
            rw [hnx]
            refine ⟨⟨_, rfl, ?_⟩, r2, k2⟩
            rw [bys_take] at g9
            exact g9.keep (k2.mono (Nat.le_of_lt r.lt)) (Nat.le_refl _)
    · have hnx : nxt n s = (none, ([], 4)) := by unfold nxt; rw [if_pos h0, if_neg hl]
      apply orCall_sound E_ok mixed (.call (α := Unit) (fun _ => .bool true) (fun _ h' => h' = h) fun _ _ => .val v (.val (.int .i64 (.ofNat s.1.length)) (.br (.call (α := Unit) (fun _ => unit) (fun _ h' => Rd False p h' ([], 4) ∧ KeepR p h.next h h') fun _ _ => .stop) .stop)))
      rw [next_ev1]
      refine ⟨hok.mono ?_, ?_⟩
      · rintro x h' ⟨rfl, rfl⟩
        exact ⟨(), by rw [h0]; rfl, rfl⟩
      · rintro _ h' rfl
        refine ⟨hv, hr.len _, fun _ => ⟨(rd_fail r (e := 4) (by decide)).mono ?_, ?_⟩, fun hc => ?_⟩
        · rintro x h2 ⟨rfl, q1, q2⟩
          exact ⟨(), rfl, q1, q2⟩
        · rintro _ h2 ⟨q1, q2⟩
          rw [hnx]
          exact ⟨rfl, q1, q2⟩
        · have := of_decide_eq_false hc
          simp only [Int.ofNat_eq_natCast] at this
          omega
  · have hnx : nxt n s = (none, ([], s.2)) := by unfold nxt; rw [if_neg h0]
    have hs : s.1 = [] := r.inv.resolve_left h0
    apply orCall_sound E_ok mixed (.call (α := Unit) (fun _ => .bool false) (fun _ h' => h' = h) fun _ _ => .stop)
    rw [next_ev0]
    refine ⟨hok.mono ?_, ?_⟩
    · rintro x h' ⟨rfl, rfl⟩
      exact ⟨(), by rw [decide_eq_false h0], rfl⟩
    · rintro _ h' rfl
      rw [hnx]
      refine ⟨rfl, ?_, KeepR.refl _ _ _⟩
      obtain ⟨h1, h2, cs, v, hg, h3, h4, h5, h6⟩ := r
      rw [hs] at h6
      exact ⟨h1, .inr rfl, cs, v, hg, h3, h4, h5, h6.imp (fun x => ⟨.inr h0, x.2⟩) id⟩
end
end Go.Proofs.YtkkbpknpongmfaaGreatDoor

/- The reader of pack: numbers, bytes, its end. -/
namespace Go.Proofs.YtkkbpknpongmfaaGreatDoor
open Go Go.Abs Classical
noncomputable section

theorem sl_ats {t el : TypeId} {i : TypeInfo} {d : TypeDesc} (hu : E.und t = some (.slice el)) (hi : E.ti.get el = some i) (hs : i.size = 1) (hd : E.und el = some d) (ha : aggD d = false) {B : Nat} {h : AHeap} {v : Value} {l : List Value} (s : Sl B h v l) :
    ∃ b o : Nat → Nat, ∀ (j : Nat) (hj : j < l.length), b j < B ∧ E.vIndexAddr t v j = some (pto (b j) (o j)) ∧ E.loadVar h el (b j) (o j) = some l[j] := by
  have : ∀ j, ∃ q : Nat × Nat, ∀ (hj : j < l.length), q.1 < B ∧ E.vIndexAddr t v j = some (pto q.1 q.2) ∧ E.loadVar h el q.1 q.2 = some l[j] := by
    intro j
    by_cases hj : j < l.length
    · obtain ⟨b, o, h1, h2, h3⟩ := s.at hu hi hs hd ha hj
      exact ⟨(b, o), fun _ => ⟨h1, h2, h3⟩⟩
    · exact ⟨(0, 0), fun h => absurd h hj⟩
  exact ⟨fun j => (Classical.choose (this j)).1, fun j => (Classical.choose (this j)).2, fun j hj => Classical.choose_spec (this j) hj⟩

/-- A number, and one byte more. -/
def orStep (v x : Int) : Int := IntKind.u64.wrap ((BitVec.ofInt IntKind.u64.bits (IntKind.u64.wrap (v * 2 ^ min (Int.toNat 8) IntKind.u64.bits)) ||| BitVec.ofInt IntKind.u64.bits x).toNat : Int)
theorem wrap_u64 {n : Nat} (h : n < 18446744073709551616) : IntKind.u64.wrap (.ofNat n) = .ofNat n := by
  unfold IntKind.wrap
  have e : (Int.ofNat n) % (2 ^ 64 : Int) = Int.ofNat n := by
    rw [Int.ofNat_eq_natCast]; omega
  simp only [show IntKind.u64.bits = 64 from rfl, show IntKind.u64.signed = false from rfl, Bool.false_and, Bool.false_eq_true, if_false, e]
theorem wrap_i64 {n : Nat} (h : n < 9223372036854775808) : IntKind.i64.wrap (.ofNat n) = .ofNat n := by
  unfold IntKind.wrap
  have e : (Int.ofNat n) % (2 ^ 64 : Int) = Int.ofNat n := by
    rw [Int.ofNat_eq_natCast]; omega
  simp only [show IntKind.i64.bits = 64 from rfl, show IntKind.i64.signed = true from rfl, e]
  rw [if_neg]
  simp only [Bool.true_and, decide_eq_true_eq, Int.ofNat_eq_natCast]
  omega
theorem orStep_ok {v x : Nat} (hv : 256 * v < 18446744073709551616) (hx : x < 256) : orStep (.ofNat v) (.ofNat x) = .ofNat (256 * v + x) := by
  unfold orStep
  have h1 : IntKind.u64.wrap ((Int.ofNat v) * 2 ^ min (Int.toNat 8) IntKind.u64.bits) = .ofNat (v * 256) := by
    rw [show (Int.ofNat v) * 2 ^ min (Int.toNat 8) IntKind.u64.bits = Int.ofNat (v * 256) from by
      rw [show (2 : Int) ^ min (Int.toNat 8) IntKind.u64.bits = 256 from rfl]; simp only [Int.ofNat_eq_natCast]; omega]
    exact wrap_u64 (by omega)
  rw [h1]
  have h2 : (BitVec.ofInt IntKind.u64.bits (Int.ofNat (v * 256)) ||| BitVec.ofInt IntKind.u64.bits (Int.ofNat x)).toNat = 256 * v + x := by
    rw [BitVec.toNat_or]
    have h3 : (BitVec.ofInt IntKind.u64.bits (Int.ofNat (v * 256))).toNat = v * 256 := by
      show (BitVec.ofInt 64 ((v * 256 : Nat) : Int)).toNat = _
      rw [BitVec.ofInt_natCast, BitVec.toNat_ofNat]
      omega
    have h4 : (BitVec.ofInt IntKind.u64.bits (Int.ofNat x)).toNat = x := by
      show (BitVec.ofInt 64 ((x : Nat) : Int)).toNat = _
      rw [BitVec.ofInt_natCast, BitVec.toNat_ofNat]
      omega
    rw [h3, h4]
    have := Nat.shiftLeft_add_eq_or_of_lt (show x < 2 ^ 8 from hx) v
    rw [Nat.shiftLeft_eq] at this
    rw [show v * 256 = v * 2 ^ 8 from rfl, ← this]
    omega
  rw [h2]
  exact wrap_u64 (by omega)

def numP (Q : Int → Prop) (h : AHeap) (u : Value) (b o : Nat → Nat) : List Nat → Nat → Int → Prop
  | [], _, v => Q v
  | x :: xs, j, v => E.vIndexAddr 50 u j = some (pto (b j) (o j)) ∧ E.loadVar h 5 (b j) (o j) = some (.int .u8 (.ofNat x)) ∧ some (Value.int .u64 (IntKind.u64.wrap (.ofNat x))) = some (Value.int .u64 (.ofNat x)) ∧ numP Q h u b o xs (j + 1) (orStep v (.ofNat x))
def numA (b o : Nat → Nat) : List Nat → Nat → Ans
  | [], _ => .nb .stop
  | x :: xs, j => .nb (.val (pto (b j) (o j)) (.val (.int .u8 (.ofNat x)) (.val (.int .u64 (.ofNat x)) (numA b o xs (j + 1)))))
/-- The number of bytes, the greatest first. -/
def beVal (l : List UInt8) : Nat := l.foldl (fun v c => 256 * v + c.toNat) 0
theorem numP_of {Q : Int → Prop} {h : AHeap} {u : Value} {b o : Nat → Nat} {L : List UInt8} (hl : ∀ (j : Nat) (hj : j < (bys L).length), E.vIndexAddr 50 u j = some (pto (b j) (o j)) ∧ E.loadVar h 5 (b j) (o j) = some (bys L)[j]) : ∀ (xs : List UInt8) (j v : Nat), L.drop j = xs → v < 256 ^ j → j + xs.length ≤ 8 → Q (.ofNat (xs.foldl (fun v c => 256 * v + c.toNat) v)) → numP Q h u b o (xs.map (·.toNat)) j (.ofNat v)
  | [], _, _, _, _, _, q => q
  | x :: xs, j, v, hd, hv, h8, q => by
    have hj : j < L.length := by
      rcases Nat.lt_or_ge j L.length with h | h
      · exact h
      · rw [List.drop_of_length_le h] at hd; cases hd
    have hx : L[j] = x ∧ L.drop (j + 1) = xs := by
      rw [List.drop_eq_getElem_cons hj] at hd
      injection hd with h1 h2
      exact ⟨h1, h2⟩
    obtain ⟨e1, e2⟩ := hl j (by rw [bys_length]; exact hj)
    have hxl := x.toNat_lt
    simp only [List.length_cons] at h8
    have hp : 256 ^ (j + 1) ≤ 256 ^ 8 := Nat.pow_le_pow_right (by omega) (by omega)
    have hp2 : 256 ^ (j + 1) = 256 * 256 ^ j := by rw [Nat.pow_succ]; omega
    have hxx : (fun (x : UInt8) => x.toNat) x = x.toNat := rfl
    have hp3 : (256 : Nat) ^ 8 = 18446744073709551616 := rfl
    refine ⟨e1, by rw [e2]; simp [bys, hx.1], by rw [wrap_u64 (show x.toNat < _ by omega)], ?_⟩
    rw [orStep_ok (by omega) hxl]
    exact numP_of hl xs (j + 1) _ hx.2 (by omega) (by omega) q

theorem number_ev8 (x0 x1 x2 x3 x4 x5 x6 x7 : Nat) (p : Nat) (h : AHeap) (c : (Value × (Nat → Nat) × (Nat → Nat)) → AHeap → Prop) (Q : ARet → AHeap → Prop) :
    orCall PP E 71 [ptr p, .int .i64 (.ofNat 8)] h (.call (fun a : Value × (Nat → Nat) × (Nat → Nat) => .tuple #[a.1, .bool true]) c fun a _ => .val (.int .i64 (.ofNat 8)) (numA a.2.1 a.2.2 [x0, x1, x2, x3, x4, x5, x6, x7] 0)) Q =
    (SC PP 73 [ptr p, .int .i64 (.ofNat 8)] h (fun r h' => ∃ a : Value × (Nat → Nat) × (Nat → Nat), r = .ret (.tuple #[a.1, .bool true]) ∧ c a h') ∧ ∀ (a : Value × (Nat → Nat) × (Nat → Nat)) (h' : AHeap), c a h' →
      (lenS 5 a.1 h' = some (.int .i64 (.ofNat 8)) ∧ numP (fun v => Q (.ret (.int .u64 v)) h') h' a.1 a.2.1 a.2.2 [x0, x1, x2, x3, x4, x5, x6, x7] 0 (.ofNat 0))) := by kernel_rfl
theorem number_ev4 (x0 x1 x2 x3 : Nat) (p : Nat) (h : AHeap) (c : (Value × (Nat → Nat) × (Nat → Nat)) → AHeap → Prop) (Q : ARet → AHeap → Prop) :
    orCall PP E 71 [ptr p, .int .i64 (.ofNat 4)] h (.call (fun a : Value × (Nat → Nat) × (Nat → Nat) => .tuple #[a.1, .bool true]) c fun a _ => .val (.int .i64 (.ofNat 4)) (numA a.2.1 a.2.2 [x0, x1, x2, x3] 0)) Q =
    (SC PP 73 [ptr p, .int .i64 (.ofNat 4)] h (fun r h' => ∃ a : Value × (Nat → Nat) × (Nat → Nat), r = .ret (.tuple #[a.1, .bool true]) ∧ c a h') ∧ ∀ (a : Value × (Nat → Nat) × (Nat → Nat)) (h' : AHeap), c a h' →
      (lenS 5 a.1 h' = some (.int .i64 (.ofNat 4)) ∧ numP (fun v => Q (.ret (.int .u64 v)) h') h' a.1 a.2.1 a.2.2 [x0, x1, x2, x3] 0 (.ofNat 0))) := by kernel_rfl
theorem number_ev0 (p : Nat) (n : Int) (h : AHeap) (c : Unit → AHeap → Prop) (Q : ARet → AHeap → Prop) :
    orCall PP E 71 [ptr p, .int .i64 n] h (.call (fun _ : Unit => .tuple #[.slice none 0 0, .bool false]) c fun _ _ => .val (.int .i64 (.ofNat 0)) (.nb .stop)) Q =
    (SC PP 73 [ptr p, .int .i64 n] h (fun r h' => ∃ _ : Unit, r = .ret (.tuple #[.slice none 0 0, .bool false]) ∧ c () h') ∧ ∀ (_ : Unit) (h' : AHeap), c () h' →
      (lenS 5 (.slice none 0 0) h' = some (.int .i64 (.ofNat 0)) ∧ Q (.ret (.int .u64 (.ofNat 0))) h')) := by kernel_rfl

/-- A number of so many bytes. -/
def rdU (n : Nat) (s : List UInt8 × Int) : Nat × (List UInt8 × Int) := match nxt n s with
  | (some l, s') => (beVal l, s')
  | (none, s') => (0, s')
/-- What a function of the reader leaves. -/
def After (p : Nat) (h : AHeap) (s' : List UInt8 × Int) (h' : AHeap) : Prop := Rd False p h' s' ∧ KeepR p h.next h h'
/-- What the calls of next leave, for a number. -/
def NumC (p : Nat) (h : AHeap) (s : List UInt8 × Int) (n : Nat) (L : List UInt8) (a : Value × (Nat → Nat) × (Nat → Nat)) (h' : AHeap) : Prop :=
  After p h (nxt n s).2 h' ∧ lenS 5 a.1 h' = some (.int .i64 (.ofNat n)) ∧ ∀ (j : Nat) (hj : j < (bys L).length), E.vIndexAddr 50 a.1 j = some (pto (a.2.1 j) (a.2.2 j)) ∧ E.loadVar h' 5 (a.2.1 j) (a.2.2 j) = some (bys L)[j]
theorem rd_number {z : Prop} {p : Nat} {h : AHeap} {s : List UInt8 × Int} (r : Rd z p h s) {n : Nat} (hn : n = 4 ∨ n = 8) : SC PP 71 [ptr p, .int .i64 (.ofNat n)] h (fun x h' => x = .ret (.int .u64 (.ofNat (rdU n s).1)) ∧ After p h (rdU n s).2 h') := by
  have hnx := rd_next r n (.inl (by omega))
  cases hx : (nxt n s).1 with
  | none =>
    have hr : rdU n s = (0, (nxt n s).2) := by unfold rdU; split <;> rename_i he <;> rw [he] at hx ⊢ <;> first | rfl | cases hx
    rw [hx] at hnx
    apply orCall_sound E_ok mixed (.call (fun _ : Unit => .tuple #[.slice none 0 0, .bool false]) (fun _ h' => After p h (nxt n s).2 h') fun _ _ => .val (.int .i64 (.ofNat 0)) (.nb .stop))
    rw [number_ev0]
    refine ⟨hnx.mono ?_, ?_⟩
    · rintro x h' ⟨h1, h2⟩; exact ⟨(), h1, h2⟩
    · rintro _ h' h2; rw [hr]; exact ⟨rfl, rfl, h2⟩
  | some L =>
    have hr : rdU n s = (beVal L, (nxt n s).2) := by
      unfold rdU
      split <;> rename_i he <;> rw [he] at hx ⊢
      · cases hx; rfl
      · cases hx
    have hL : L.length = n := by
      unfold nxt at hx
      split at hx
      · split at hx
        · simp only [Option.some.injEq] at hx; subst hx; rw [List.length_take]; omega
        · cases hx
      · cases hx
    rw [hx] at hnx
    have hs : SC PP 73 [ptr p, .int .i64 (.ofNat n)] h (fun r h' => ∃ a : Value × (Nat → Nat) × (Nat → Nat), r = .ret (.tuple #[a.1, .bool true]) ∧ NumC p h s n L a h') := by
      refine hnx.mono ?_
      rintro x h' ⟨⟨u, rfl, hu⟩, h2⟩
      obtain ⟨b, o, hbo⟩ := sl_ats un50 ti5 rfl un5 rfl hu.sl
      refine ⟨(u, b, o), rfl, h2, ?_, fun j hj => (hbo j hj).2⟩
      rw [hu.len (h' := h') 5, bys_length, hL]
    rcases hn with rfl | rfl
    · match L, hL with
      | [x0, x1, x2, x3], _ =>
        apply orCall_sound E_ok mixed (.call (fun a : Value × (Nat → Nat) × (Nat → Nat) => .tuple #[a.1, .bool true]) (NumC p h s 4 [x0, x1, x2, x3]) fun a _ => .val (.int .i64 (.ofNat 4)) (numA a.2.1 a.2.2 [x0.toNat, x1.toNat, x2.toNat, x3.toNat] 0))
        rw [number_ev4]
        refine ⟨hs, ?_⟩
        rintro ⟨u, b, o⟩ h' ⟨h2, h3, h4⟩
        refine ⟨h3, numP_of h4 [x0, x1, x2, x3] 0 0 rfl (by decide) (by simp) ?_⟩
        rw [hr]
        exact ⟨rfl, h2⟩
    · match L, hL, hr, hs with
      | [x0, x1, x2, x3, x4, x5, x6, x7], _, hr, hs =>
        apply orCall_sound E_ok mixed (.call (fun a : Value × (Nat → Nat) × (Nat → Nat) => .tuple #[a.1, .bool true]) (NumC p h s 8 [x0, x1, x2, x3, x4, x5, x6, x7]) fun a _ => .val (.int .i64 (.ofNat 8)) (numA a.2.1 a.2.2 [x0.toNat, x1.toNat, x2.toNat, x3.toNat, x4.toNat, x5.toNat, x6.toNat, x7.toNat] 0))
        rw [number_ev8]
        refine ⟨hs, ?_⟩
        rintro ⟨u, b, o⟩ h' ⟨h2, h3, h4⟩
        refine ⟨h3, numP_of h4 [x0, x1, x2, x3, x4, x5, x6, x7] 0 0 rfl (by decide) (by simp) ?_⟩
        rw [hr]
        exact ⟨rfl, h2⟩

theorem u64_ev (p : Nat) (x : Int) (h : AHeap) (c : Unit → AHeap → Prop) (Q : ARet → AHeap → Prop) : orCall PP E 37 [ptr p] h (.call (fun _ : Unit => .int .u64 x) c fun _ _ => .stop) Q =
    (SC PP 71 [ptr p, .int .i64 (.ofNat 8)] h (fun r h' => ∃ _ : Unit, r = .ret (.int .u64 x) ∧ c () h') ∧ ∀ (_ : Unit) (h' : AHeap), c () h' → Q (.ret (.int .u64 x)) h') := by kernel_rfl
theorem rd_u64 {z : Prop} {p : Nat} {h : AHeap} {s : List UInt8 × Int} (r : Rd z p h s) : SC PP 37 [ptr p] h (fun x h' => x = .ret (.int .u64 (.ofNat (rdU 8 s).1)) ∧ After p h (rdU 8 s).2 h') := by
  apply orCall_sound E_ok mixed (.call (fun _ : Unit => .int .u64 (.ofNat (rdU 8 s).1)) (fun _ h' => After p h (rdU 8 s).2 h') fun _ _ => .stop)
  rw [u64_ev]
  exact ⟨(rd_number r (.inr rfl)).mono fun x h' q => ⟨(), q⟩, fun _ h' q => ⟨rfl, q⟩⟩

theorem u32_ev (p : Nat) (x y : Int) (h : AHeap) (c : Unit → AHeap → Prop) (Q : ARet → AHeap → Prop) : orCall PP E 72 [ptr p] h (.call (fun _ : Unit => .int .u64 x) c fun _ _ => .val (.int .u32 y) .stop) Q =
    (SC PP 71 [ptr p, .int .i64 (.ofNat 4)] h (fun r h' => ∃ _ : Unit, r = .ret (.int .u64 x) ∧ c () h') ∧ ∀ (_ : Unit) (h' : AHeap), c () h' → some (Value.int .u32 (IntKind.u32.wrap x)) = some (.int .u32 y) ∧ Q (.ret (.int .u32 y)) h') := by kernel_rfl
theorem wrap_u32 {n : Nat} (h : n < 4294967296) : IntKind.u32.wrap (.ofNat n) = .ofNat n := by
  unfold IntKind.wrap
  have e : (Int.ofNat n) % (2 ^ 32 : Int) = Int.ofNat n := by
    rw [Int.ofNat_eq_natCast]; omega
  simp only [show IntKind.u32.bits = 32 from rfl, show IntKind.u32.signed = false from rfl, Bool.false_and, Bool.false_eq_true, if_false, e]
theorem beVal_lt : ∀ (l : List UInt8) (v : Nat), l.foldl (fun v c => 256 * v + c.toNat) v < (v + 1) * 256 ^ l.length
  | [], v => by simp
  | c :: l, v => by
    have := beVal_lt l (256 * v + c.toNat)
    have hc := c.toNat_lt
    rw [List.foldl_cons, List.length_cons, Nat.pow_succ]
    refine Nat.lt_of_lt_of_le this ?_
    rw [Nat.mul_comm (256 ^ l.length) 256, ← Nat.mul_assoc]
    exact Nat.mul_le_mul_right _ (by omega)
theorem rdU_lt (n : Nat) (s : List UInt8 × Int) : (rdU n s).1 < 256 ^ n := by
  unfold rdU
  split
  · rename_i l s' he
    have hl : l.length = n := by
      unfold nxt at he
      split at he
      · split at he
        · simp only [Prod.mk.injEq, Option.some.injEq] at he; rw [← he.1, List.length_take]; omega
        · simp at he
      · simp at he
    have := beVal_lt l 0
    rw [hl] at this
    show beVal l < _
    unfold beVal
    omega
  · exact Nat.pow_pos (by omega)
theorem rd_u32 {z : Prop} {p : Nat} {h : AHeap} {s : List UInt8 × Int} (r : Rd z p h s) : SC PP 72 [ptr p] h (fun x h' => x = .ret (.int .u32 (.ofNat (rdU 4 s).1)) ∧ After p h (rdU 4 s).2 h') := by
  apply orCall_sound E_ok mixed (.call (fun _ : Unit => .int .u64 (.ofNat (rdU 4 s).1)) (fun _ h' => After p h (rdU 4 s).2 h') fun _ _ => .val (.int .u32 (.ofNat (rdU 4 s).1)) .stop)
  rw [u32_ev]
  exact ⟨(rd_number r (.inl rfl)).mono fun x h' q => ⟨(), q⟩, fun _ h' q => ⟨by rw [wrap_u32 (rdU_lt 4 s)], rfl, q⟩⟩

/-- A number of at most so much. -/
def rdNum (mx : Nat) (s : List UInt8 × Int) : Nat × (List UInt8 × Int) :=
  if (rdU 8 s).2.2 = 0 then (if (rdU 8 s).1 ≤ mx then rdU 8 s else (0, ([], 5))) else (0, (rdU 8 s).2)
theorem num_ev0 (p : Nat) (x m : Int) (h : AHeap) (c : Unit → AHeap → Prop) (Q : ARet → AHeap → Prop) : orCall PP E 36 [ptr p, .int .i64 m] h (.call (fun _ : Unit => .int .u64 x) c fun _ _ => .call (fun _ : Unit => .bool false) c fun _ _ => .stop) Q =
    (SC PP 37 [ptr p] h (fun r h' => ∃ _ : Unit, r = .ret (.int .u64 x) ∧ c () h') ∧ ∀ (_ : Unit) (h' : AHeap), c () h' → (SC PP 69 [ptr p] h' (fun r h' => ∃ _ : Unit, r = .ret (.bool false) ∧ c () h') ∧ ∀ (_ : Unit) (h' : AHeap), c () h' →
      Q (.ret (.int .i64 (.ofNat 0))) h')) := by kernel_rfl
theorem num_ev1 (p : Nat) (x y m : Int) (h : AHeap) (c c3 : Unit → AHeap → Prop) (Q : ARet → AHeap → Prop) : orCall PP E 36 [ptr p, .int .i64 m] h (.call (fun _ : Unit => .int .u64 x) c fun _ _ => .call (fun _ : Unit => .bool true) c fun _ _ => .br (.call (fun _ : Unit => unit) c3 fun _ _ => .stop) (.val (.int .i64 y) (.br (.call (fun _ : Unit => unit) c3 fun _ _ => .stop) (.val (.int .i64 y) .stop)))) Q =
    (SC PP 37 [ptr p] h (fun r h' => ∃ _ : Unit, r = .ret (.int .u64 x) ∧ c () h') ∧ ∀ (_ : Unit) (h' : AHeap), c () h' → (SC PP 69 [ptr p] h' (fun r h' => ∃ _ : Unit, r = .ret (.bool true) ∧ c () h') ∧ ∀ (_ : Unit) (h' : AHeap), c () h' →
      ((decide (x.fdiv (2 ^ min (Int.toNat 63) IntKind.u64.bits) = 1) = true → (SC PP 70 [ptr p, .int .i64 5] h' (fun r h' => ∃ _ : Unit, r = .ret unit ∧ c3 () h') ∧ ∀ (_ : Unit) (h' : AHeap), c3 () h' → Q (.ret (.int .i64 (.ofNat 0))) h')) ∧
       (decide (x.fdiv (2 ^ min (Int.toNat 63) IntKind.u64.bits) = 1) = false → some (Value.int .i64 (IntKind.i64.wrap x)) = some (.int .i64 y) ∧
         ((decide (y > m) = true → (SC PP 70 [ptr p, .int .i64 5] h' (fun r h' => ∃ _ : Unit, r = .ret unit ∧ c3 () h') ∧ ∀ (_ : Unit) (h' : AHeap), c3 () h' → Q (.ret (.int .i64 (.ofNat 0))) h')) ∧
          (decide (y > m) = false → some (Value.int .i64 (IntKind.i64.wrap x)) = some (.int .i64 y) ∧ Q (.ret (.int .i64 y)) h')))))) := by kernel_rfl
theorem KeepR.step {p : Nat} {h h1 h2 : AHeap} (a : KeepR p h.next h h1) (b : KeepR p h1.next h1 h2) : KeepR p h.next h h2 := a.trans (b.mono a.next)
theorem fdiv63 {x : Nat} (hx : x < 18446744073709551616) : (decide ((Int.ofNat x).fdiv (2 ^ min (Int.toNat 63) IntKind.u64.bits) = 1) = true) ↔ 9223372036854775808 ≤ x := by
  rw [decide_eq_true_eq, show (2 : Int) ^ min (Int.toNat 63) IntKind.u64.bits = 9223372036854775808 from rfl, Int.fdiv_eq_ediv_of_nonneg _ (by omega)]
  simp only [Int.ofNat_eq_natCast]
  omega
theorem rd_num {z : Prop} {p : Nat} {h : AHeap} {s : List UInt8 × Int} (r : Rd z p h s) {mx : Nat} (hm : mx < 9223372036854775808) : SC PP 36 [ptr p, .int .i64 (.ofNat mx)] h (fun x h' => x = .ret (.int .i64 (.ofNat (rdNum mx s).1)) ∧ After p h (rdNum mx s).2 h') := by
  have hx := rdU_lt 8 s
  have hf : ∀ h' : AHeap, After p h (rdU 8 s).2 h' → SC PP 70 [ptr p, .int .i64 5] h' (fun r h2 => ∃ _ : Unit, r = .ret unit ∧ After p h ([], 5) h2) := fun h' q =>
    (rd_fail q.1 (e := 5) (by decide)).mono fun x h2 q2 => ⟨(), q2.1, q2.2.1, KeepR.step q.2 q2.2.2⟩
  by_cases h0 : (rdU 8 s).2.2 = 0
  · have hok : ∀ h' : AHeap, After p h (rdU 8 s).2 h' → SC PP 69 [ptr p] h' (fun r h2 => ∃ _ : Unit, r = .ret (.bool true) ∧ After p h (rdU 8 s).2 h2) := fun h' q =>
      (rd_ok q.1).mono fun x h2 q2 => ⟨(), by rw [q2.1, decide_eq_true h0], by rw [q2.2]; exact q⟩
    apply orCall_sound E_ok mixed (.call (fun _ : Unit => .int .u64 (.ofNat (rdU 8 s).1)) (fun _ h' => After p h (rdU 8 s).2 h') fun _ _ => .call (fun _ : Unit => .bool true) (fun _ h' => After p h (rdU 8 s).2 h') fun _ _ => .br (.call (fun _ : Unit => unit) (fun _ h' => After p h ([], 5) h') fun _ _ => .stop) (.val (.int .i64 (.ofNat (rdU 8 s).1)) (.br (.call (fun _ : Unit => unit) (fun _ h' => After p h ([], 5) h') fun _ _ => .stop) (.val (.int .i64 (.ofNat (rdU 8 s).1)) .stop))))
    rw [num_ev1]
    refine ⟨(rd_u64 r).mono fun x h' q => ⟨(), q⟩, fun _ h' q => ⟨hok h' q, fun _ h2 q2 => ⟨fun hc => ⟨hf h2 q2, fun _ h3 q3 => ?_⟩, fun hc => ?_⟩⟩⟩
    · have hc := (fdiv63 hx).1 hc
      have : rdNum mx s = (0, ([], 5)) := by unfold rdNum; rw [if_pos h0, if_neg (by omega)]
      rw [this]; exact ⟨rfl, q3⟩
    · have hc : ¬ 9223372036854775808 ≤ (rdU 8 s).1 := fun hh => by rw [(fdiv63 hx).2 hh] at hc; cases hc
      have hw := wrap_i64 (n := (rdU 8 s).1) (by omega)
      refine ⟨by rw [hw], fun hc => ⟨hf h2 q2, fun _ h3 q3 => ?_⟩, fun hc => ⟨by rw [hw], ?_⟩⟩
      · have hc := of_decide_eq_true hc
        simp only [Int.ofNat_eq_natCast] at hc
        have : rdNum mx s = (0, ([], 5)) := by unfold rdNum; rw [if_pos h0, if_neg (by omega)]
        rw [this]; exact ⟨rfl, q3⟩
      · have hc := of_decide_eq_false hc
        simp only [Int.ofNat_eq_natCast] at hc
        have : rdNum mx s = rdU 8 s := by unfold rdNum; rw [if_pos h0, if_pos (by omega)]
        rw [this]; exact ⟨rfl, q2⟩
  · have hok : ∀ h' : AHeap, After p h (rdU 8 s).2 h' → SC PP 69 [ptr p] h' (fun r h2 => ∃ _ : Unit, r = .ret (.bool false) ∧ After p h (rdU 8 s).2 h2) := fun h' q =>
      (rd_ok q.1).mono fun x h2 q2 => ⟨(), by rw [q2.1, decide_eq_false h0], by rw [q2.2]; exact q⟩
    apply orCall_sound E_ok mixed (.call (fun _ : Unit => .int .u64 (.ofNat (rdU 8 s).1)) (fun _ h' => After p h (rdU 8 s).2 h') fun _ _ => .call (fun _ : Unit => .bool false) (fun _ h' => After p h (rdU 8 s).2 h') fun _ _ => .stop)
    rw [num_ev0]
    refine ⟨(rd_u64 r).mono fun x h' q => ⟨(), q⟩, fun _ h' q => ⟨hok h' q, fun _ h2 q2 => ?_⟩⟩
    have : rdNum mx s = (0, (rdU 8 s).2) := by unfold rdNum; rw [if_neg h0]
    rw [this]; exact ⟨rfl, q2⟩

theorem err_ev (p : Nat) (e : Int) (h : AHeap) (Q : ARet → AHeap → Prop) : orCall PP E 39 [ptr p] h (.nb (.val (.bool true) (.val (.int .i64 e) .stop))) Q =
    (E.loadVar h 4 p 2 = some (.bool true) ∧ E.loadVar h 89 p 1 = some (.int .i64 e) ∧ Q (.ret (.int .i64 e)) h) := by kernel_rfl
theorem rd_err {z : Prop} {p : Nat} {h : AHeap} {s : List UInt8 × Int} (r : Rd z p h s) : SC PP 39 [ptr p] h (fun x h' => x = .ret (.int .i64 s.2) ∧ h' = h) := by
  apply orCall_sound E_ok mixed (.nb (.val (.bool true) (.val (.int .i64 s.2) .stop)))
  rw [err_ev]
  exact ⟨r.load2, r.load1, rfl, rfl⟩
theorem left_ev (p : Nat) (v : Value) (n : Int) (h : AHeap) (Q : ARet → AHeap → Prop) : orCall PP E 74 [ptr p] h (.nb (.val v (.val (.int .i64 n) .stop))) Q =
    (E.loadVar h 50 p 0 = some v ∧ lenS 5 v h = some (.int .i64 n) ∧ Q (.ret (.int .i64 n)) h) := by kernel_rfl
theorem rd_left {z : Prop} {p : Nat} {h : AHeap} {s : List UInt8 × Int} (r : Rd z p h s) : SC PP 74 [ptr p] h (fun x h' => x = .ret (.int .i64 (.ofNat s.1.length)) ∧ h' = h) := by
  obtain ⟨v, hv, hr⟩ := r.load0
  apply orCall_sound E_ok mixed (.nb (.val v (.val (.int .i64 (.ofNat s.1.length)) .stop)))
  rw [left_ev]
  exact ⟨hv, hr.len h, rfl, rfl⟩
theorem end_ev (p : Nat) (e n : Int) (h : AHeap) (c : Unit → AHeap → Prop) (Q : ARet → AHeap → Prop) : orCall PP E 40 [ptr p] h (.call (fun _ : Unit => .int .i64 e) c fun _ _ => .br (.call (fun _ : Unit => .int .i64 n) c fun _ _ => .br .stop (.call (fun _ : Unit => .int .i64 e) c fun _ _ => .stop)) (.call (fun _ : Unit => .int .i64 e) c fun _ _ => .stop)) Q =
    (SC PP 39 [ptr p] h (fun r h' => ∃ _ : Unit, r = .ret (.int .i64 e) ∧ c () h') ∧ ∀ (_ : Unit) (h' : AHeap), c () h' →
      ((decide (e = 0) = true → (SC PP 74 [ptr p] h' (fun r h' => ∃ _ : Unit, r = .ret (.int .i64 n) ∧ c () h') ∧ ∀ (_ : Unit) (h' : AHeap), c () h' →
          ((decide (n > 0) = true → Q (.ret (.int .i64 (.ofNat 3))) h') ∧ (decide (n > 0) = false → (SC PP 39 [ptr p] h' (fun r h' => ∃ _ : Unit, r = .ret (.int .i64 e) ∧ c () h') ∧ ∀ (_ : Unit) (h' : AHeap), c () h' → Q (.ret (.int .i64 e)) h'))))) ∧
       (decide (e = 0) = false → (SC PP 39 [ptr p] h' (fun r h' => ∃ _ : Unit, r = .ret (.int .i64 e) ∧ c () h') ∧ ∀ (_ : Unit) (h' : AHeap), c () h' → Q (.ret (.int .i64 e)) h')))) := by kernel_rfl
theorem rd_end {z : Prop} {p : Nat} {h : AHeap} {s : List UInt8 × Int} (r : Rd z p h s) : SC PP 40 [ptr p] h (fun x h' => (∃ e, x = .ret (.int .i64 e) ∧ (e = 0 ↔ s.2 = 0 ∧ s.1 = [])) ∧ h' = h) := by
  have he : SC PP 39 [ptr p] h (fun r h' => ∃ _ : Unit, r = .ret (.int .i64 s.2) ∧ h' = h) := (rd_err r).mono fun _ _ q => ⟨(), q⟩
  apply orCall_sound E_ok mixed (.call (fun _ : Unit => .int .i64 s.2) (fun _ h' => h' = h) fun _ _ => .br (.call (fun _ : Unit => .int .i64 (.ofNat s.1.length)) (fun _ h' => h' = h) fun _ _ => .br .stop (.call (fun _ : Unit => .int .i64 s.2) (fun _ h' => h' = h) fun _ _ => .stop)) (.call (fun _ : Unit => .int .i64 s.2) (fun _ h' => h' = h) fun _ _ => .stop))
  rw [end_ev]
  refine ⟨he, ?_⟩
  rintro _ h' rfl
  refine ⟨fun hc => ⟨(rd_left r).mono fun _ _ q => ⟨(), q⟩, ?_⟩, fun hc => ⟨he, ?_⟩⟩
  · rintro _ h' rfl
    have hc := of_decide_eq_true hc
    refine ⟨fun hn => ⟨⟨3, rfl, ?_⟩, rfl⟩, fun hn => ⟨he, ?_⟩⟩
    · have hn := of_decide_eq_true hn
      simp only [Int.ofNat_eq_natCast] at hn
      constructor
      · intro h3; cases h3
      · rintro ⟨_, h4⟩; rw [h4] at hn; simp at hn
    · rintro _ h' rfl
      have hn := of_decide_eq_false hn
      simp only [Int.ofNat_eq_natCast] at hn
      exact ⟨⟨s.2, rfl, fun _ => ⟨hc, List.length_eq_zero_iff.1 (by omega)⟩, fun q => q.1⟩, rfl⟩
  · rintro _ h' rfl
    have hc := of_decide_eq_false hc
    exact ⟨⟨s.2, rfl, fun q => absurd q hc, fun q => q.1⟩, rfl⟩
end
end Go.Proofs.YtkkbpknpongmfaaGreatDoor

/- The reader of pack: bytes; how one is made. -/
namespace Go.Proofs.YtkkbpknpongmfaaGreatDoor
open Go Go.Abs Classical
noncomputable section

theorem own_slx {B : Nat} {h : AHeap} {v : Value} {l : List Value} {p : Nat} (o : Own B h v l) (hp : h.next ≤ p) : (l = [] ∧ v = .slice none 0 0) ∨ SlX p h.next h v l := by
  cases o with
  | nil => exact .inl ⟨rfl, rfl⟩
  | row h1 h2 h3 h4 h5 h6 h7 =>
    rename_i b q sn
    refine .inr (.row h2 (by omega) (loadN_all h6) (capNm_named h7).2 ?_ h7)
    rw [capLo_odd (by have := (capNm_named (q := q) h7).2; omega)]
    have hn : named q l.length = 2 * (l.length + q * 4294967296) + 1 := rfl
    rw [hn]; omega
theorem _root_.Go.Abs.OwnF.shape {F : Nat → Prop} {h : AHeap} {v : Value} {l : List Value} (o : OwnF F h v l) : v = .slice none 0 0 ∨ ∃ b n k, v = .slice (some ⟨b, 0, none⟩) n k := by
  cases o with
  | nil => exact .inl rfl
  | row => exact .inr ⟨_, _, _, rfl⟩
theorem read_ev (v : Value) (b o n k : Nat) (h h1 : AHeap) (Q : ARet → AHeap → Prop) : orCall PP E 35 [v] h (.eff (.slice (some ⟨b, o, none⟩) n k) h1 .stop) Q =
    (E.appendA h 50 50 (.slice none 0 0) v = some (.slice (some ⟨b, o, none⟩) n k, h1) ∧ Q (.ret (ptr h1.next)) (h1.row [.slice (some ⟨b, o, none⟩) n k, .int .i64 (.ofNat 0), .bool true])) := by kernel_rfl
theorem read_ev0 (v : Value) (h h1 : AHeap) (Q : ARet → AHeap → Prop) : orCall PP E 35 [v] h (.eff (.slice none 0 0) h1 .stop) Q =
    (E.appendA h 50 50 (.slice none 0 0) v = some (.slice none 0 0, h1) ∧ Q (.ret (ptr h1.next)) (h1.row [.slice none 0 0, .int .i64 (.ofNat 0), .bool true])) := by kernel_rfl
theorem row_get (h : AHeap) (l : List Value) : (h.row l).get h.next = some (.cells (PT.leaf.puts 0 l) (.rw [])) := by
  show (h.alloc (.cells (PT.leaf.puts 0 l) (.rw []))).get h.next = _
  rw [AHeap.get_alloc, if_pos rfl]
theorem row_keep (h : AHeap) (l : List Value) : Keep h.next h (h.row l) := Keep.alloc (Nat.le_refl _) _
/-- A reader of its own. -/
def NewRd (h : AHeap) (l : List UInt8) (x : ARet) (h' : AHeap) : Prop := ∃ p, x = .ret (ptr p) ∧ h.next ≤ p ∧ Rd True p h' (l, 0) ∧ Keep h.next h h'
theorem rd_read {h : AHeap} {v : Value} {l : List UInt8} (hv : Sl h.next h v (bys l)) (hn : l.length < 4294967296) : SC PP 35 [v] h (NewRd h l) := by
  obtain ⟨u, h1, e, o1, k1⟩ := own_append bytesOk (Nat.le_refl h.next) .nil hv (bys_one l) (by simp [bys_length]; omega) (by simp [bys_length]; omega)
  rw [List.nil_append] at o1
  have key : NewRd h l (.ret (ptr h1.next)) (h1.row [u, .int .i64 (.ofNat 0), .bool true]) := by
    refine ⟨h1.next, rfl, k1.next, ⟨Nat.lt_succ_self _, .inl rfl, _, u, row_get h1 _, ?_, ?_, ?_, ?_⟩, k1.trans ((row_keep h1 _).mono k1.next)⟩
    · rw [PT.get_puts]; simp
    · rw [PT.get_puts]; simp
    · rw [PT.get_puts]; simp
    · rcases own_slx o1 (p := h1.next) (Nat.le_refl _) with ⟨h2, h3⟩ | h2
      · refine .inl ⟨.inl trivial, ?_, h3⟩
        have := congrArg List.length h2
        rw [bys_length] at this
        exact List.length_eq_zero_iff.1 this
      · exact .inr (h2.keep ((row_keep h1 _).keepR _) (Nat.le_refl _))
  rcases o1.shape with rfl | ⟨b, n, k, rfl⟩
  · exact orCall_sound E_ok mixed (.eff (.slice none 0 0) h1 .stop) (by rw [read_ev0]; exact ⟨e, key⟩)
  · exact orCall_sound E_ok mixed (.eff (.slice (some ⟨b, 0, none⟩) n k) h1 .stop) (by rw [read_ev]; exact ⟨e, key⟩)

/-- Bytes, of at most so many. -/
def rdBy (mx : Nat) (s : List UInt8 × Int) : List UInt8 × (List UInt8 × Int) :=
  if (rdU 4 s).2.2 = 0 then (if (rdU 4 s).1 ≤ mx then (match nxt (rdU 4 s).1 (rdU 4 s).2 with
    | (some l, s') => (l, s')
    | (none, s') => ([], s')) else ([], ([], 5))) else ([], (rdU 4 s).2)
theorem by_ev0 (p : Nat) (x y m : Int) (h : AHeap) (c : Unit → AHeap → Prop) (Q : ARet → AHeap → Prop) : orCall PP E 38 [ptr p, .int .i64 m] h (.call (fun _ : Unit => .int .u32 x) c fun _ _ => .val (.int .i64 y) (.call (fun _ : Unit => .bool false) c fun _ _ => .stop)) Q =
    (SC PP 72 [ptr p] h (fun r h' => ∃ _ : Unit, r = .ret (.int .u32 x) ∧ c () h') ∧ ∀ (_ : Unit) (h' : AHeap), c () h' → some (Value.int .i64 (IntKind.i64.wrap x)) = some (.int .i64 y) ∧ (SC PP 69 [ptr p] h' (fun r h' => ∃ _ : Unit, r = .ret (.bool false) ∧ c () h') ∧ ∀ (_ : Unit) (h' : AHeap), c () h' →
      Q (.ret (.slice none 0 0)) h')) := by kernel_rfl
theorem by_ev1 (p : Nat) (x y m : Int) (h : AHeap) (c c3 : Unit → AHeap → Prop) (c4 : (Value × Value × Value × AHeap) → AHeap → Prop) (Q : ARet → AHeap → Prop) : orCall PP E 38 [ptr p, .int .i64 m] h (.call (fun _ : Unit => .int .u32 x) c fun _ _ => .val (.int .i64 y) (.call (fun _ : Unit => .bool true) c fun _ _ => .br (.call (fun _ : Unit => unit) c3 fun _ _ => .stop)
      (.call (fun a : Value × Value × Value × AHeap => .tuple #[a.1, a.2.1]) c4 fun a _ => .eff a.2.2.1 a.2.2.2 .stop))) Q =
    (SC PP 72 [ptr p] h (fun r h' => ∃ _ : Unit, r = .ret (.int .u32 x) ∧ c () h') ∧ ∀ (_ : Unit) (h' : AHeap), c () h' → some (Value.int .i64 (IntKind.i64.wrap x)) = some (.int .i64 y) ∧ (SC PP 69 [ptr p] h' (fun r h' => ∃ _ : Unit, r = .ret (.bool true) ∧ c () h') ∧ ∀ (_ : Unit) (h' : AHeap), c () h' →
      ((decide (y > m) = true → (SC PP 70 [ptr p, .int .i64 5] h' (fun r h' => ∃ _ : Unit, r = .ret unit ∧ c3 () h') ∧ ∀ (_ : Unit) (h' : AHeap), c3 () h' → Q (.ret (.slice none 0 0)) h')) ∧
       (decide (y > m) = false → (SC PP 73 [ptr p, .int .i64 y] h' (fun r h' => ∃ a : Value × Value × Value × AHeap, r = .ret (.tuple #[a.1, a.2.1]) ∧ c4 a h') ∧ ∀ (a : Value × Value × Value × AHeap) (h' : AHeap), c4 a h' →
          (E.appendA h' 50 50 (.slice none 0 0) a.1 = some (a.2.2.1, a.2.2.2) ∧ Q (.ret a.2.2.1) a.2.2.2)))))) := by kernel_rfl
theorem app_nil (h : AHeap) : E.appendA h 50 50 (.slice none 0 0) (.slice none 0 0) = some (.slice none 0 0, h) := by kernel_rfl
theorem nxt_len {n : Nat} {s s' : List UInt8 × Int} {l : List UInt8} (e : nxt n s = (some l, s')) : l.length = n := by
  unfold nxt at e
  split at e
  · split at e
    · simp only [Prod.mk.injEq, Option.some.injEq] at e; rw [← e.1, List.length_take]; omega
    · cases e
  · cases e
theorem rd_by {z : Prop} {p : Nat} {h : AHeap} {s : List UInt8 × Int} (r : Rd z p h s) {mx : Nat} (hm : mx < 4294967296) : SC PP 38 [ptr p, .int .i64 (.ofNat mx)] h (fun x h' => (∃ w, x = .ret w ∧ Own h.next h' w (bys (rdBy mx s).1)) ∧ After p h (rdBy mx s).2 h') := by
  have hx : (rdU 4 s).1 < 4294967296 := rdU_lt 4 s
  have hw : some (Value.int .i64 (IntKind.i64.wrap (.ofNat (rdU 4 s).1))) = some (Value.int .i64 (.ofNat (rdU 4 s).1)) := by rw [wrap_i64 (n := (rdU 4 s).1) (by omega)]
  by_cases h0 : (rdU 4 s).2.2 = 0
  · have hok : ∀ h' : AHeap, After p h (rdU 4 s).2 h' → SC PP 69 [ptr p] h' (fun r h2 => ∃ _ : Unit, r = .ret (.bool true) ∧ After p h (rdU 4 s).2 h2) := fun h' q =>
      (rd_ok q.1).mono fun x h2 q2 => ⟨(), by rw [q2.1, decide_eq_true h0], by rw [q2.2]; exact q⟩
    apply orCall_sound E_ok mixed (.call (fun _ : Unit => .int .u32 (.ofNat (rdU 4 s).1)) (fun _ h' => After p h (rdU 4 s).2 h') fun _ _ => .val (.int .i64 (.ofNat (rdU 4 s).1)) (.call (fun _ : Unit => .bool true) (fun _ h' => After p h (rdU 4 s).2 h') fun _ _ => .br (.call (fun _ : Unit => unit) (fun _ h' => After p h ([], 5) h') fun _ _ => .stop)
      (.call (fun a : Value × Value × Value × AHeap => .tuple #[a.1, a.2.1]) (fun a h' => (rdU 4 s).1 ≤ mx ∧ E.appendA h' 50 50 (.slice none 0 0) a.1 = some (a.2.2.1, a.2.2.2) ∧ Own h.next a.2.2.2 a.2.2.1 (bys (rdBy mx s).1) ∧ After p h (rdBy mx s).2 a.2.2.2) fun a _ => .eff a.2.2.1 a.2.2.2 .stop)))
    rw [by_ev1]
    refine ⟨(rd_u32 r).mono fun x h' q => ⟨(), q⟩, ?_⟩
    intro _ h' q
    refine ⟨hw, hok h' q, ?_⟩
    intro _ h2 q2
    refine ⟨?_, ?_⟩
    · intro hc
      refine ⟨(rd_fail q2.1 (e := 5) (by decide)).mono fun x h3 q3 => ⟨(), q3.1, q3.2.1, KeepR.step q2.2 q3.2.2⟩, ?_⟩
      intro _ h3 q3
      have hc := of_decide_eq_true hc
      have hc : mx < (rdU 4 s).1 := Int.ofNat_lt.1 hc
      have : rdBy mx s = ([], ([], 5)) := by unfold rdBy; rw [if_pos h0, if_neg (by omega)]
      rw [this]; exact ⟨⟨_, rfl, .nil⟩, q3⟩
    · intro hc
      have hc := of_decide_eq_false hc
      have hle : (rdU 4 s).1 ≤ mx := by
        rcases Nat.lt_or_ge mx (rdU 4 s).1 with h | h
        · exact absurd (Int.ofNat_lt.2 h) hc
        · exact h
      refine ⟨(rd_next q2.1 (rdU 4 s).1 (.inr id)).mono ?_, ?_⟩
      rotate_left
      · intro a h3 q3
        exact ⟨q3.2.1, ⟨_, rfl, q3.2.2.1⟩, q3.2.2.2⟩
      rintro x h3 ⟨q3, q4, q5⟩
      cases hn : nxt (rdU 4 s).1 (rdU 4 s).2 with
      | mk o s' =>
        rw [hn] at q3 q4
        have hk : KeepR p h.next h h3 := KeepR.step q2.2 q5
        cases o with
        | none =>
          have : rdBy mx s = ([], s') := by unfold rdBy; rw [if_pos h0, if_pos hle, hn]
          rw [this]
          exact ⟨(.slice none 0 0, .bool false, .slice none 0 0, h3), q3, hle, app_nil h3, .nil, q4, hk⟩
        | some l =>
          have : rdBy mx s = (l, s') := by unfold rdBy; rw [if_pos h0, if_pos hle, hn]
          rw [this]
          obtain ⟨u, rfl, hu⟩ := q3
          have hlen : l.length < 4294967296 := by
            have := nxt_len hn
            omega
          obtain ⟨w, h4, e, o1, k1⟩ := own_append bytesOk (Nat.le_refl h3.next) .nil (hu.sl.mono (Nat.le_of_lt q4.lt)) (bys_one l) (by simp [bys_length]; omega) (by simp [bys_length]; omega)
          rw [List.nil_append] at o1
          refine ⟨(u, .bool true, w, h4), rfl, hle, e, o1.mono hk.next, q4.keep k1 q4.lt, hk.trans ((k1.keepR p).mono hk.next)⟩
  · have hok : ∀ h' : AHeap, After p h (rdU 4 s).2 h' → SC PP 69 [ptr p] h' (fun r h2 => ∃ _ : Unit, r = .ret (.bool false) ∧ After p h (rdU 4 s).2 h2) := fun h' q =>
      (rd_ok q.1).mono fun x h2 q2 => ⟨(), by rw [q2.1, decide_eq_false h0], by rw [q2.2]; exact q⟩
    apply orCall_sound E_ok mixed (.call (fun _ : Unit => .int .u32 (.ofNat (rdU 4 s).1)) (fun _ h' => After p h (rdU 4 s).2 h') fun _ _ => .val (.int .i64 (.ofNat (rdU 4 s).1)) (.call (fun _ : Unit => .bool false) (fun _ h' => After p h (rdU 4 s).2 h') fun _ _ => .stop))
    rw [by_ev0]
    refine ⟨(rd_u32 r).mono fun x h' q => ⟨(), q⟩, fun _ h' q => ⟨hw, hok h' q, fun _ h2 q2 => ?_⟩⟩
    have : rdBy mx s = ([], (rdU 4 s).2) := by unfold rdBy; rw [if_neg h0]
    rw [this]; exact ⟨⟨_, rfl, .nil⟩, q2⟩
end
end Go.Proofs.YtkkbpknpongmfaaGreatDoor

/- sess.Decode. -/
namespace Go.Proofs.YtkkbpknpongmfaaGreatDoor
open Go Go.Abs Classical
noncomputable section
/-- The loops of a code, the outer ahead. -/
def loopsOf : Code → List Code
  | .loop c => c :: loopsOf c
  | .seq a b => loopsOf a ++ loopsOf b
  | .block _ c => loopsOf c
  | .cond _ a b => loopsOf a ++ loopsOf b
  | _ => []
def codeOf (f : Nat) : Code := match E.fn.get f with
  | some fn => match fn.body with
    | some c => c
    | none => .skip
  | none => .skip
def nthC : List Code → Nat → Code
  | [], _ => .skip
  | c :: _, 0 => c
  | _ :: l, n + 1 => nthC l n
/-- The body of a function's loop. -/
def bodyOf (f n : Nat) : Code := nthC (loopsOf (codeOf f)) n
/-- A frame of so many temporaries, of which these are known. -/
def frM (n : Nat) : List (Nat × Value) → PT Value
  | [] => .leaf
  | p :: l => (frM n l).set p.1 p.2
def fr (n : Nat) (l : List (Nat × Value)) : AFr := ⟨frM n l, n, []⟩

/-- How a loop is left. -/
def LQ {α β : Type} (id : Nat) (fa : α → AFr) (ca : α → AHeap → Prop) (fb : β → AFr) (cb : β → AHeap → Prop) (x : AExit) (f : AFr) (h : AHeap) : Prop :=
  (x = .exit id ∧ ∃ a, Less (fa a) f ∧ ca a h) ∨ (x = .ret ∧ ∃ b, Less (fb b) f ∧ cb b h)
/-- A round's end. -/
def RL (I : Nat → AFr → AHeap → Prop) (Q : AExit → AFr → AHeap → Prop) (k : Nat) (x : AExit) (f : AFr) (h : AHeap) : Prop := match x with
  | .normal => ∃ j, j < k ∧ I j f h
  | x => Q x f h
theorem loop_or {α β : Type} {id : Nat} {fa : α → AFr} {ca : α → AHeap → Prop} {fb : β → AFr} {cb : β → AHeap → Prop} {rd : Option Nat} {c : Code} (ks : List Nat) (I : Nat → AFr → AHeap → Prop)
    (hI : ∀ k f h, I k f h → ∃ s, orC PP E c f h s (fun x f h' _ => RL I (LQ id fa ca fb cb) k x (keepF ks f) h')) {k : Nat} {f : AFr} {h : AHeap} (hi : I k f h) : SW PP rd (.loop c) f h (LQ id fa ca fb cb) := by
  refine sw_loop I ?_ hi
  intro k f h hi
  obtain ⟨s, e⟩ := hI k f h hi
  refine (orC_sound E_ok mixed (rd := rd) _ _ _ _ _ e).mono ?_
  rintro x f' h' ⟨s', f2, hl, q⟩
  have hq : ∀ x, LQ id fa ca fb cb x (keepF ks f2) h' → LQ id fa ca fb cb x f' h' := by
    rintro x (⟨h1, a, h2, h3⟩ | ⟨h1, b, h2, h3⟩)
    · exact .inl ⟨h1, a, (h2.trans (keepF_less ks f2)).trans hl, h3⟩
    · exact .inr ⟨h1, b, (h2.trans (keepF_less ks f2)).trans hl, h3⟩
  cases x with
  | normal =>
    obtain ⟨j, h1, h2⟩ := q
    exact ⟨j, _, h1, (keepF_less ks f2).trans hl, h2⟩
  | _ => exact hq _ q

theorem wrap_succ {i : Nat} (h : i + 1 < 9223372036854775808) : IntKind.i64.wrap (.ofNat i.succ) = .ofNat (i + 1) := wrap_i64 h
theorem un9 : E.und 9 = some .string := by kernel_rfl
theorem un23 : E.und 23 = some (.slice 9) := by kernel_rfl
theorem un30 : E.und 30 = some (.slice 23) := by kernel_rfl
theorem ti9 : E.ti.get 9 = some Tryz.t9 := by kernel_rfl
theorem ti23 : E.ti.get 23 = some Tryz.t23 := by kernel_rfl
theorem strsOk : ElOk E 23 9 16 := ⟨un23, Tryz.t9, .string ⟨⟨[]⟩⟩, ti9, rfl, rfl, rfl, rfl⟩
theorem listsOk : ElOk E 30 23 24 := ⟨un30, Tryz.t23, .slice none 0 0, ti23, rfl, rfl, rfl, rfl⟩
theorem bytesOf_bys : ∀ (l : List UInt8), bytesOf (bys l) = some l
  | [] => rfl
  | c :: l => by
    have := bytesOf_bys l
    show bytesOf (Value.int .u8 (.ofNat c.toNat) :: bys l) = _
    unfold bytesOf
    rw [this]
    simp
theorem conv_bys {B : Nat} {h h' : AHeap} {v : Value} {l : List UInt8} (s : Sl B h v (bys l)) : E.vConv h 50 9 v = some (str l) := by
  generalize hL : bys l = L at s
  cases s with
  | nil =>
    have : l = [] := by cases l with
      | nil => rfl
      | cons _ _ => simp [bys] at hL
    subst this
    simp only [Env.vConv, un50, un9, un5]; rfl
  | row h1 h2 =>
    subst hL
    simp only [Env.vConv, un50, un9, un5, h2, bytesOf_bys]; rfl

/-- So many strings, one behind the other. -/
def argsN : Nat → List UInt8 × Int → List (List UInt8) × (List UInt8 × Int)
  | 0, s => ([], s)
  | n + 1, s => ((argsN n s).1 ++ [(rdBy 512 (argsN n s).2).1], (rdBy 512 (argsN n s).2).2)
theorem argsN_len : ∀ (n : Nat) (s : List UInt8 × Int), (argsN n s).1.length = n
  | 0, _ => rfl
  | n + 1, s => by simp [argsN, argsN_len n s]
theorem strs_one (l : List (List UInt8)) : (l.map str).all oneCell = true := by simp [str, oneCell]

theorem args_ev (p i m : Nat) (l : List UInt8) (v2 v5 v16 v17 w : Value) (h : AHeap) (c : (Value × Value × AHeap) → AHeap → Prop) (R : AExit → AFr → AHeap → Prop) :
    orC PP E (bodyOf 14 1) (fr 57 [(2, v2), (4, ptr p), (5, v5), (6, w), (16, v16), (17, v17), (20, .int .i64 (.ofNat m)), (21, .int .i64 (.ofNat i))]) h
      (.br (.call (fun a : Value × Value × AHeap => a.1) c fun a _ => .val (str l) (.eff a.2.1 a.2.2 .stop)) .stop) (fun x f h' _ => R x (keepF [2,4,5,6,16,17,20,21] f) h') =
    ((decide (Int.ofNat i < Int.ofNat m) = true → SC PP 38 [ptr p, .int .i64 (.ofNat 512)] h (fun r h' => ∃ a : Value × Value × AHeap, r = .ret a.1 ∧ c a h') ∧ ∀ (a : Value × Value × AHeap) (h' : AHeap), c a h' →
      E.vConv h' 50 9 a.1 = some (str l) ∧ E.appendA (h'.row [str l]) 23 23 w (.slice (some ⟨h'.next, 0, none⟩) 1 2) = some (a.2.1, a.2.2) ∧
        R .normal (fr 57 [(2, v2), (4, ptr p), (5, v5), (6, a.2.1), (16, v16), (17, v17), (20, .int .i64 (.ofNat m)), (21, .int .i64 (IntKind.i64.wrap (.ofNat i.succ)))]) a.2.2) ∧
     (decide (Int.ofNat i < Int.ofNat m) = false → R (.exit 2) (fr 57 [(2, v2), (4, ptr p), (5, v5), (6, w), (16, v16), (17, v17), (20, .int .i64 (.ofNat m)), (21, .int .i64 (.ofNat i))]) h)) := by kernel_rfl

theorem row_sl (h : AHeap) (l : List Value) (k : Nat) : Sl (h.row l).next (h.row l) (.slice (some ⟨h.next, 0, none⟩) l.length k) l := .row (Nat.lt_succ_self _) (loadN_all (row_get h l))
/-- One value more. -/
theorem own_push {t el bytes : Nat} (te : ElOk E t el bytes) {B : Nat} {h : AHeap} {v x : Value} {l : List Value} (hB : B ≤ h.next) (ho : Own B h v l) (hx : oneCell x = true) (hn : l.length + 1 < 4294967296) (hb : (l.length + 1) * bytes ≤ 140737488355328) :
    ∃ v' h', E.appendA (h.row [x]) t t v (.slice (some ⟨h.next, 0, none⟩) 1 2) = some (v', h') ∧ Own B h' v' (l ++ [x]) ∧ Keep B h h' := by
  obtain ⟨v', h', e, o, k⟩ := own_append te (h := h.row [x]) (Nat.le_succ_of_le hB) (ho.alloc _) (row_sl h [x] 2) (by simp [hx]) (by simp; omega) (by simpa using hb)
  exact ⟨v', h', e, o, ((row_keep h [x]).mono hB).trans k⟩

/-- What lies above the reader and below a number is as it was: seen from a call's end. -/
theorem After.trans {p : Nat} {h h1 h2 : AHeap} {s s' : List UInt8 × Int} (a : After p h s h1) (b : After p h1 s' h2) : After p h s' h2 := ⟨b.1, KeepR.step a.2 b.2⟩
theorem After.keep {p : Nat} {h h1 h2 : AHeap} {s : List UInt8 × Int} (a : After p h s h1) {B : Nat} (k : Keep B h1 h2) (hB : h.next ≤ B) (hp : p < h.next) : After p h s h2 := ⟨a.1.keep k (Nat.lt_of_lt_of_le hp hB), a.2.trans ((k.keepR p).mono hB)⟩
/-- What one owns is not what a reader's function changes. -/
theorem own_after {p : Nat} {F : Nat → Prop} {h h' : AHeap} {v : Value} {l : List Value} (o : OwnF F h v l) (k : KeepR p h.next h h') (hp : ¬ F p) : OwnF F h' v l := by
  cases o with
  | nil => exact .nil
  | row h1 h2 h3 h4 h5 h6 h7 => exact .row h1 (Nat.lt_of_lt_of_le h2 k.next) (fun s hs => ⟨(h3 s hs).1, Nat.lt_of_lt_of_le (h3 s hs).2 k.next⟩) ⟨h4.1, Nat.lt_of_lt_of_le h4.2 k.next⟩ ((k.gr _ h4.2).trans h5) (by rw [k.get _ h2 (by rintro rfl; exact hp h1)]; exact h6) h7
theorem args_loop {p m : Nat} {s : List UInt8 × Int} {H : AHeap} {v2 v5 v16 v17 : Value} {rd : Option Nat} (hm : m < 1000) (r : Rd False p H s) :
    SW PP rd (.loop (bodyOf 14 1)) (fr 57 [(2, v2), (4, ptr p), (5, v5), (6, .slice none 0 0), (16, v16), (17, v17), (20, .int .i64 (.ofNat m)), (21, .int .i64 (.ofNat 0))]) H
      (LQ 2 (fun w : Value => fr 57 [(2, v2), (4, ptr p), (5, v5), (6, w), (16, v16), (17, v17)]) (fun w h' => Own H.next h' w ((argsN m s).1.map str) ∧ After p H (argsN m s).2 h') (fun _ : Unit => fr 57 []) (fun _ _ => False)) := by
  refine loop_or [2,4,5,6,16,17,20,21] (fun k f h => ∃ i w, i + k = m ∧ f = fr 57 [(2, v2), (4, ptr p), (5, v5), (6, w), (16, v16), (17, v17), (20, .int .i64 (.ofNat m)), (21, .int .i64 (.ofNat i))] ∧ Own H.next h w ((argsN i s).1.map str) ∧ After p H (argsN i s).2 h) ?_
    (k := m) ⟨0, .slice none 0 0, by omega, rfl, .nil, r, KeepR.refl _ _ _⟩
  rintro k f h ⟨i, w, hk, rfl, ho, ha⟩
  refine ⟨(.br (.call (fun a : Value × Value × AHeap => a.1) (fun a h' => E.vConv h' 50 9 a.1 = some (str (rdBy 512 (argsN i s).2).1) ∧ E.appendA (h'.row [str (rdBy 512 (argsN i s).2).1]) 23 23 w (.slice (some ⟨h'.next, 0, none⟩) 1 2) = some (a.2.1, a.2.2) ∧
      Own H.next a.2.2 a.2.1 ((argsN (i + 1) s).1.map str) ∧ After p H (argsN (i + 1) s).2 a.2.2) fun a _ => .val (str (rdBy 512 (argsN i s).2).1) (.eff a.2.1 a.2.2 .stop)) .stop), ?_⟩
  rw [args_ev]
  refine ⟨fun hc => ⟨(rd_by ha.1 (mx := 512) (by decide)).mono ?_, ?_⟩, fun hc => ?_⟩
  · rintro x h1 ⟨⟨u, rfl, hu⟩, ha1⟩
    have hlen : ((argsN i s).1.map str).length = i := by rw [List.length_map, argsN_len]
    have hc := Int.ofNat_lt.1 (of_decide_eq_true hc)
    have hl1 : H.next ≤ h1.next := Nat.le_trans ha.2.next ha1.2.next
    obtain ⟨v', h', e, o', k'⟩ := own_push strsOk hl1 (own_after ho ha1.2 (by have := r.lt; omega)) (show oneCell (str (rdBy 512 (argsN i s).2).1) = true from rfl) (by omega) (by omega)
    refine ⟨(u, v', h'), rfl, conv_bys (h' := h1) hu.sl, e, ?_, ?_⟩
    · simpa [argsN] using o'
    · exact (ha.trans ha1).keep k' (Nat.le_refl _) r.lt
  · rintro a h' ⟨h1, h2, h3, h4⟩
    have hc := Int.ofNat_lt.1 (of_decide_eq_true hc)
    refine ⟨h1, h2, k - 1, by omega, i + 1, a.2.1, by omega, ?_, h3, h4⟩
    rw [wrap_succ (by omega)]
  · have hc := of_decide_eq_false hc
    have : i = m := by
      rcases Nat.lt_or_ge i m with h | h
      · exact absurd (Int.ofNat_lt.2 h) hc
      · omega
    subst this
    exact .inl ⟨rfl, w, (show Less (keepF [2,4,5,6,16,17] (fr 57 [(2, v2), (4, ptr p), (5, v5), (6, w), (16, v16), (17, v17), (20, .int .i64 (.ofNat i)), (21, .int .i64 (.ofNat i))])) _ from keepF_less _ _), ho, ha⟩
end
end Go.Proofs.YtkkbpknpongmfaaGreatDoor

/- sess.Decode: the outer loop. -/
namespace Go.Proofs.YtkkbpknpongmfaaGreatDoor
open Go Go.Abs Classical
noncomputable section
abbrev zeroG : Value := .agg #[.int .i64 (.ofNat 0), .int .i64 (.ofNat 0), .slice none 0 0]
/-- A frame of the outer loop. -/
abbrev frO (g p q n i : Nat) : AFr := fr 57 [(2, ptr g), (4, ptr p), (5, ptr q), (16, .int .i64 (.ofNat n)), (17, .int .i64 (.ofNat i))]
abbrev frR (g p q n i : Nat) : AFr := fr 57 [(2, ptr g), (3, .bool false), (4, ptr p), (5, ptr q), (16, .int .i64 (.ofNat n)), (17, .int .i64 (.ofNat i))]
abbrev frI (g p q n i : Nat) (w : Value) : AFr := fr 57 [(2, ptr g), (4, ptr p), (5, ptr q), (6, w), (16, .int .i64 (.ofNat n)), (17, .int .i64 (.ofNat i))]
abbrev frJ (g p q n i k : Nat) (w : Value) (j : Nat) : AFr := fr 57 [(2, ptr g), (4, ptr p), (5, ptr q), (6, w), (16, .int .i64 (.ofNat n)), (17, .int .i64 (.ofNat i)), (20, .int .i64 (.ofNat k)), (21, .int .i64 (.ofNat j))]

theorem cmds_ev_end (p q g i n : Nat) (h : AHeap) (R : AExit → AFr → AHeap → Prop) : orC PP E (bodyOf 14 0) (frO g p q n i) h (.br .stop .stop) (fun x f h' _ => R x (keepF [2,3,4,5,16,17] f) h') =
    ((decide (Int.ofNat i < Int.ofNat n) = true → False) ∧ (decide (Int.ofNat i < Int.ofNat n) = false → R (.exit 0) (frO g p q n i) h)) := by kernel_rfl

theorem cmds_ev0 (p q g i n k : Nat) (h : AHeap) (c1 : Unit → AHeap → Prop) (c2 : (Value × AHeap) → AHeap → Prop) (R : AExit → AFr → AHeap → Prop) : orC PP E (bodyOf 14 0) (frO g p q n i) h
      (.br (.call (fun _ : Unit => .int .i64 (.ofNat k)) c1 fun _ _ => .loop [2,4,5,6,16,17,20,21] 2 (fun a : Value × AHeap => frI g p q n i a.1) c2 (fun a _ =>
        .val (.int .i64 (.ofNat k)) (.br (.eff undef a.2 .stop) .stop)) (fun _ : Unit => fr 57 []) (fun _ _ => False) (fun _ _ => .stop)) .stop) (fun x f h' _ => R x (keepF [2,3,4,5,16,17] f) h') =
    ((decide (Int.ofNat i < Int.ofNat n) = true → SC PP 36 [ptr p, .int .i64 (.ofNat 40)] h (fun r h' => ∃ _ : Unit, r = .ret (.int .i64 (.ofNat k)) ∧ c1 () h') ∧ ∀ (_ : Unit) (h' : AHeap), c1 () h' →
        ((∀ rd, SW PP rd (.loop (bodyOf 14 1)) (frJ g p q n i k (.slice none 0 0) 0) h' (LQ 2 (fun a : Value × AHeap => frI g p q n i a.1) c2 (fun _ : Unit => fr 57 []) (fun _ _ => False))) ∧
         (∀ (a : Value × AHeap) (h' : AHeap), c2 a h' → lenS 9 a.1 h' = some (.int .i64 (.ofNat k)) ∧
            ((decide (Int.ofNat k = 0) = true → E.storeVar h' 42 g 0 zeroG = some a.2 ∧ undef = undef ∧ R .ret (frR g p q n i) a.2) ∧ (decide (Int.ofNat k = 0) = false → False))) ∧
         ∀ (_ : Unit) (h' : AHeap), False → R .ret (fr 57 []) h')) ∧
     (decide (Int.ofNat i < Int.ofNat n) = false → R (.exit 0) (frO g p q n i) h)) := by kernel_rfl

theorem cmds_ev (p q g i n k : Nat) (e : Int) (h : AHeap) (c1 : Unit → AHeap → Prop) (c2 : (Nat × Nat × Nat × Value × Value × AHeap × AHeap × AHeap) → AHeap → Prop) (R : AExit → AFr → AHeap → Prop) : orC PP E (bodyOf 14 0) (frO g p q n i) h
      (.br (.call (fun _ : Unit => .int .i64 (.ofNat k)) c1 fun _ _ => .loop [2,4,5,6,16,17,20,21] 2 (fun a : Nat × Nat × Nat × Value × Value × AHeap × AHeap × AHeap => frI g p q n i (.slice (some ⟨a.1, 0, none⟩) a.2.1 a.2.2.1)) c2 (fun a h' =>
        .val (.int .i64 (.ofNat k)) (.br .stop (.call (fun _ : Unit => .int .i64 e) (fun _ h2 => h2 = h') fun _ _ => .br (.eff undef a.2.2.2.2.2.1 .stop) (.val a.2.2.2.1 (.eff a.2.2.2.2.1 a.2.2.2.2.2.2.1 (.eff undef a.2.2.2.2.2.2.2 .stop))))))
        (fun _ : Unit => fr 57 []) (fun _ _ => False) (fun _ _ => .stop)) .stop) (fun x f h' _ => R x (keepF [2,3,4,5,16,17] f) h') =
    ((decide (Int.ofNat i < Int.ofNat n) = true → SC PP 36 [ptr p, .int .i64 (.ofNat 40)] h (fun r h' => ∃ _ : Unit, r = .ret (.int .i64 (.ofNat k)) ∧ c1 () h') ∧ ∀ (_ : Unit) (h' : AHeap), c1 () h' →
        ((∀ rd, SW PP rd (.loop (bodyOf 14 1)) (frJ g p q n i k (.slice none 0 0) 0) h' (LQ 2 (fun a : Nat × Nat × Nat × Value × Value × AHeap × AHeap × AHeap => frI g p q n i (.slice (some ⟨a.1, 0, none⟩) a.2.1 a.2.2.1)) c2 (fun _ : Unit => fr 57 []) (fun _ _ => False))) ∧
         (∀ (a : Nat × Nat × Nat × Value × Value × AHeap × AHeap × AHeap) (h' : AHeap), c2 a h' → lenS 9 (.slice (some ⟨a.1, 0, none⟩) a.2.1 a.2.2.1) h' = some (.int .i64 (.ofNat k)) ∧
            ((decide (Int.ofNat k = 0) = true → False) ∧
             (decide (Int.ofNat k = 0) = false → (SC PP 39 [ptr p] h' (fun r h2 => ∃ _ : Unit, r = .ret (.int .i64 e) ∧ h2 = h') ∧ ∀ (_ : Unit) (h2 : AHeap), h2 = h' →
               (((!(e == 0)) = true → E.storeVar h2 42 g 0 zeroG = some a.2.2.2.2.2.1 ∧ undef = undef ∧ R .ret (frR g p q n i) a.2.2.2.2.2.1) ∧
                ((!(e == 0)) = false → E.loadVar h2 30 q 2 = some a.2.2.2.1 ∧ E.appendA (h2.row [.slice (some ⟨a.1, 0, none⟩) a.2.1 a.2.2.1]) 30 30 a.2.2.2.1 (.slice (some ⟨h2.next, 0, none⟩) 1 2) = some (a.2.2.2.2.1, a.2.2.2.2.2.2.1) ∧
                   E.storeVar a.2.2.2.2.2.2.1 30 q 2 a.2.2.2.2.1 = some a.2.2.2.2.2.2.2 ∧ undef = undef ∧ R .normal (fr 57 [(2, ptr g), (4, ptr p), (5, ptr q), (16, .int .i64 (.ofNat n)), (17, .int .i64 (IntKind.i64.wrap (.ofNat i.succ)))]) a.2.2.2.2.2.2.2)))))) ∧
         ∀ (_ : Unit) (h' : AHeap), False → R .ret (fr 57 []) h')) ∧
     (decide (Int.ofNat i < Int.ofNat n) = false → R (.exit 0) (frO g p q n i) h)) := by kernel_rfl

/-! What is there: a struct of three cells; rows of rows. -/
structure Grp (q : Nat) (h : AHeap) (N M : Int) (cv : Value) : Prop where
  lt : q < h.next
  get : ∃ cs, h.get q = some (.cells cs (.rw [])) ∧ cs.get 0 = some (.int .i64 N) ∧ cs.get 1 = some (.int .i64 M) ∧ cs.get 2 = some cv
theorem Grp.keep {q : Nat} {h h' : AHeap} {N M : Int} {cv : Value} (g : Grp q h N M cv) (k : h'.get q = h.get q) (hn : h.next ≤ h'.next) : Grp q h' N M cv :=
  ⟨Nat.lt_of_lt_of_le g.lt hn, by rw [k]; exact g.get⟩
theorem Grp.load2 {q : Nat} {h : AHeap} {N M : Int} {cv : Value} (g : Grp q h N M cv) : E.loadVar h 30 q 2 = some cv := by
  obtain ⟨cs, hg, _, _, h2⟩ := g.get
  exact load_cell (by kernel_rfl : E.ti.get 30 = some Tryz.t30) un30 rfl hg h2
theorem Grp.store2 {q : Nat} {h : AHeap} {N M : Int} {cv : Value} (g : Grp q h N M cv) {v : Value} (hc : cellsL v = [v]) (ho : oneCell v = true) : ∃ h', E.storeVar h 30 q 2 v = some h' ∧ Grp q h' N M v ∧ KeepR q h.next h h' := by
  obtain ⟨cs, hg, h0, h1, h2⟩ := g.get
  refine ⟨h.set q (.cells (cs.puts 2 [v]) (.rw [])), store_cell (by kernel_rfl : E.ti.get 30 = some Tryz.t30) rfl hg h2 hc ho, ⟨g.lt, cs.puts 2 [v], ?_, ?_, ?_, ?_⟩, KeepR.set q h.next h _⟩
  · rw [AHeap.get_set, if_pos rfl]
  · rw [PT.get_puts]; simpa using h0
  · rw [PT.get_puts]; simpa using h1
  · rw [PT.get_puts]; simp
/-- Strings in a slice that F does not touch. -/
inductive SlF (F : Nat → Prop) (h : AHeap) : Value → List Value → Prop
  | nil : SlF F h (.slice none 0 0) []
  | row {b o k : Nat} {l : List Value} : b < h.next → ¬ F b → h.loadN b o l.length = some l → SlF F h (.slice (some ⟨b, o, none⟩) l.length k) l
theorem SlF.sl {F : Nat → Prop} {h : AHeap} {v : Value} {l : List Value} (s : SlF F h v l) : Sl h.next h v l := by
  cases s with
  | nil => exact .nil
  | row h1 _ h3 => exact .row h1 h3
theorem SlF.keep {F F' : Nat → Prop} {h h' : AHeap} {v : Value} {l : List Value} (s : SlF F h v l) (hn : h.next ≤ h'.next) (k : ∀ b, b < h.next → ¬ F b → h'.get b = h.get b) (hF : ∀ b, b < h.next → ¬ F b → ¬ F' b) : SlF F' h' v l := by
  cases s with
  | nil => exact .nil
  | row h1 h2 h3 => exact .row (Nat.lt_of_lt_of_le h1 hn) (hF _ h1 h2) (by rw [loadN_get (k _ h1 h2)]; exact h3)
inductive Lists (F : Nat → Prop) (h : AHeap) : List Value → List (List (List UInt8)) → Prop
  | nil : Lists F h [] []
  | snoc {lv : List Value} {cs : List (List (List UInt8))} {v : Value} {c : List (List UInt8)} : Lists F h lv cs → SlF F h v (c.map str) → oneCell v = true → Lists F h (lv ++ [v]) (cs ++ [c])
theorem Lists.keep {F F' : Nat → Prop} {h h' : AHeap} {lv : List Value} {cs : List (List (List UInt8))} (s : Lists F h lv cs) (hn : h.next ≤ h'.next) (k : ∀ b, b < h.next → ¬ F b → h'.get b = h.get b) (hF : ∀ b, b < h.next → ¬ F b → ¬ F' b) : Lists F' h' lv cs := by
  induction s with
  | nil => exact .nil
  | snoc _ h2 h3 ih => exact .snoc ih (h2.keep hn k hF) h3
theorem Lists.len {F : Nat → Prop} {h : AHeap} {lv : List Value} {cs : List (List (List UInt8))} (s : Lists F h lv cs) : lv.length = cs.length := by
  induction s with
  | nil => rfl
  | snoc _ _ _ ih => simp [ih]
/-- So many commands. -/
def cmdsN : Nat → List UInt8 × Int → Option (List (List (List UInt8)) × (List UInt8 × Int))
  | 0, s => some ([], s)
  | n + 1, s => match cmdsN n s with
    | none => none
    | some (cs, s') => if (rdNum 40 s').1 = 0 ∨ (argsN (rdNum 40 s').1 (rdNum 40 s').2).2.2 ≠ 0 then none else some (cs ++ [(argsN (rdNum 40 s').1 (rdNum 40 s').2).1], (argsN (rdNum 40 s').1 (rdNum 40 s').2).2)

theorem cmdsN_none {i : Nat} {s : List UInt8 × Int} (e : cmdsN i s = none) : ∀ {n : Nat}, i ≤ n → cmdsN n s = none
  | 0, h => by have : i = 0 := by omega
               subst this; exact e
  | n + 1, h => by
    rcases Nat.lt_or_ge n i with h1 | h1
    · have : i = n + 1 := by omega
      subst this; exact e
    · unfold cmdsN; rw [cmdsN_none e h1]
theorem cmdsN_len : ∀ (n : Nat) (s s' : List UInt8 × Int) (cs : List (List (List UInt8))), cmdsN n s = some (cs, s') → cs.length = n
  | 0, s, s', cs, e => by simp only [cmdsN, Option.some.injEq, Prod.mk.injEq] at e; rw [← e.1]; rfl
  | n + 1, s, s', cs, e => by
    unfold cmdsN at e
    split at e
    · cases e
    · rename_i cs0 s0 e0
      split at e
      · cases e
      · simp only [Option.some.injEq, Prod.mk.injEq] at e
        rw [← e.1]; simp [cmdsN_len n s s0 cs0 e0]
/-- A store of zeros into a struct of zeros. -/
theorem ti42 : E.ti.get 42 = some Tryz.t42 := by kernel_rfl
theorem Grp.storeAll {q : Nat} {h : AHeap} {N M : Int} {cv : Value} (g : Grp q h N M cv) (N' M' : Int) {v : Value} (ho : oneCell v = true) : ∃ h', E.storeVar h 42 q 0 (.agg #[.int .i64 N', .int .i64 M', v]) = some h' ∧ Grp q h' N' M' v ∧ KeepR q h.next h h' := by
  obtain ⟨cs, hg, h0, h1, h2⟩ := g.get
  refine ⟨h.set q (.cells (cs.puts 0 [.int .i64 N', .int .i64 M', v]) (.rw [])), ?_, ⟨g.lt, cs.puts 0 [.int .i64 N', .int .i64 M', v], ?_, ?_, ?_, ?_⟩, KeepR.set q h.next h _⟩
  · unfold Env.storeVar AHeap.storeN
    have hcl : cellsL (.agg #[.int .i64 N', .int .i64 M', v]) = [.int .i64 N', .int .i64 M', v] := rfl
    have hg3 : cs.gets 0 3 = some [.int .i64 N, .int .i64 M, cv] := by
      simp only [PT.gets, h0, h1, h2]
    simp only [ti42, show (Tryz.t42).size = 3 from rfl, hcl, hg, List.length_cons, List.length_nil]
    simp only [Nat.zero_add, Nat.reduceAdd, hg3, Option.isSome_some, List.all_cons, List.all_nil, ho, show oneCell (.int .i64 N') = true from rfl, show oneCell (.int .i64 M') = true from rfl, Bool.and_true, cond_true, Nat.beq, AHeap.kills]
  · rw [AHeap.get_set, if_pos rfl]
  · rw [PT.get_puts]; simp
  · rw [PT.get_puts]; simp
  · rw [PT.get_puts]; simp

theorem rdNum_le (mx : Nat) (s : List UInt8 × Int) : (rdNum mx s).1 ≤ mx := by
  unfold rdNum
  split
  · split
    · assumption
    · exact Nat.zero_le _
  · exact Nat.zero_le _

/-- What holds at the outer loop's head. -/
structure St (g p q B0 : Nat) (N M : Int) (H h0 : AHeap) (s : List UInt8 × Int) (i : Nat) (h : AHeap) (cs : List (List (List UInt8))) (s' : List UInt8 × Int) (cv : Value) (lv : List Value) (F : Nat → Prop) : Prop where
  dec : cmdsN i s = some (cs, s')
  rd : Rd False p h s'
  res : Grp g h 0 0 (.slice none 0 0)
  grp : Grp q h N M cv
  own : OwnF F h cv lv
  lists : Lists (fun b => F b ∨ b = p ∨ b = q ∨ b = g) h lv cs
  lo : ∀ b, F b → H.next ≤ b
  hi : ∀ b, h.next ≤ b → F b
  keep : Keep B0 h0 h
  next : H.next ≤ h.next
structure Pl (g p q B0 : Nat) (H : AHeap) : Prop where
  g0 : B0 ≤ g
  p0 : B0 ≤ p
  q0 : B0 ≤ q
  gp : g < p
  pq : p < q
  gl : g < H.next
  pl : p < H.next
  ql : q < H.next
/-- The reader goes on. -/
theorem St.read {g p q B0 : Nat} {N M : Int} {H h0 : AHeap} {s : List UInt8 × Int} {i : Nat} {h h' : AHeap} {cs : List (List (List UInt8))} {s' s2 : List UInt8 × Int} {cv : Value} {lv : List Value} {F : Nat → Prop} (pl : Pl g p q B0 H) (t : St g p q B0 N M H h0 s i h cs s' cv lv F) (a : After p h s2 h') :
    Grp g h' 0 0 (.slice none 0 0) ∧ Grp q h' N M cv ∧ OwnF F h' cv lv ∧ Lists (fun b => F b ∨ b = p ∨ b = q ∨ b = g) h' lv cs ∧ Keep B0 h0 h' ∧ H.next ≤ h'.next := by
  have hn := t.next
  have h1 := pl.gl
  have h2 := pl.pl
  have h3 := pl.ql
  have hgo : B0 ≤ h.next := by have := pl.p0; omega
  refine ⟨t.res.keep (a.2.get g (by omega) (by have := pl.gp; omega)) a.2.next, t.grp.keep (a.2.get q (by omega) (by have := pl.pq; omega)) a.2.next, own_after t.own a.2 (fun hf => by have := t.lo p hf; omega), t.lists.keep a.2.next ?_ (fun _ _ h => h), t.keep.trans ⟨a.2.ng, a.2.next, fun b hb => a.2.get b (by omega) (by have := pl.p0; omega), fun b hb => a.2.gr b (by omega)⟩, Nat.le_trans hn a.2.next⟩
  intro b hb hF
  exact a.2.get b hb fun e => hF (.inr (.inl e))

theorem LQ.mono {α α' β β' : Type} {id : Nat} {fa : α → AFr} {ca : α → AHeap → Prop} {fb : β → AFr} {cb : β → AHeap → Prop} {fa' : α' → AFr} {ca' : α' → AHeap → Prop} {fb' : β' → AFr} {cb' : β' → AHeap → Prop} {x : AExit} {f : AFr} {h : AHeap}
    (q : LQ id fa ca fb cb x f h) (h1 : ∀ a, ca a h → ∃ a', fa' a' = fa a ∧ ca' a' h) (h2 : ∀ b, cb b h → ∃ b', fb' b' = fb b ∧ cb' b' h) : LQ id fa' ca' fb' cb' x f h := by
  rcases q with ⟨e, a, hl, q⟩ | ⟨e, b, hl, q⟩
  · obtain ⟨a', e', q'⟩ := h1 a q
    exact .inl ⟨e, a', by rw [e']; exact hl, q'⟩
  · obtain ⟨b', e', q'⟩ := h2 b q
    exact .inr ⟨e, b', by rw [e']; exact hl, q'⟩

theorem KeepR.toKeep {p B B0 : Nat} {h h' : AHeap} (k : KeepR p B h h') (hp : B0 ≤ p) (hb : B0 ≤ B) : Keep B0 h h' := ⟨k.ng, k.next, fun b hh => k.get b (by omega) (by omega), fun b hh => k.gr b (by omega)⟩
theorem ownF_push {t el bytes : Nat} (te : ElOk E t el bytes) {F : Nat → Prop} {h : AHeap} {v x : Value} {l : List Value} (hF : ∀ b, h.next ≤ b → F b) (ho : OwnF F h v l) (hx : oneCell x = true) (hn : l.length + 1 < 4294967296) (hb : (l.length + 1) * bytes ≤ 140737488355328) :
    ∃ v' h', E.appendA (h.row [x]) t t v (.slice (some ⟨h.next, 0, none⟩) 1 2) = some (v', h') ∧ OwnF F h' v' (l ++ [x]) ∧ KeepF F h h' := by
  obtain ⟨v', h', e, o, k⟩ := ownF_append te (h := h.row [x]) (F := F) (fun b hb => hF b (Nat.le_of_succ_le hb)) (ho.alloc _) (row_sl h [x] 2) (by simp [hx]) (by simp; omega) (by simpa using hb)
  refine ⟨v', h', e, o, k.ng, Nat.le_trans (Nat.le_succ _) k.next, fun b hb hf => (k.get b (Nat.lt_succ_of_lt hb) hf).trans ((row_keep h [x]).get b hb), fun q hq => (k.gr q (Nat.lt_succ_of_lt hq)).trans ((row_keep h [x]).gr q hq)⟩
theorem cmds_loop {g p q n B0 : Nat} {s : List UInt8 × Int} {N M : Int} {H h0 : AHeap} {rd : Option Nat} (pl : Pl g p q B0 H) (hn : n ≤ 21) (t0 : ∃ cv lv F, St g p q B0 N M H h0 s 0 H [] s cv lv F) :
    SW PP rd (.loop (bodyOf 14 0)) (frO g p q n 0) H (LQ 0 (fun _ : Unit => fr 57 [(2, ptr g), (4, ptr p), (5, ptr q)]) (fun _ h' => ∃ cs s' cv lv F, St g p q B0 N M H h0 s n h' cs s' cv lv F)
      (fun _ : Unit => fr 57 [(2, ptr g), (3, .bool false)]) (fun _ h' => cmdsN n s = none ∧ Grp g h' 0 0 (.slice none 0 0) ∧ Keep B0 h0 h')) := by
  obtain ⟨cv0, lv0, F0, t0⟩ := t0
  refine loop_or [2,3,4,5,16,17] (fun k f h => ∃ i, i + k = n ∧ f = frO g p q n i ∧ ∃ cs s' cv lv F, St g p q B0 N M H h0 s i h cs s' cv lv F) ?_ (k := n) ⟨0, by omega, rfl, _, _, _, _, _, t0⟩
  rintro k f h ⟨i, hk, rfl, cs, s', cv, lv, F, t⟩
  by_cases hi : i < n
  · have c36 : SC PP 36 [ptr p, .int .i64 (.ofNat 40)] h (fun r h' => ∃ _ : Unit, r = .ret (.int .i64 (.ofNat (rdNum 40 s').1)) ∧ After p h (rdNum 40 s').2 h') := (rd_num t.rd (by decide)).mono fun _ _ q => ⟨(), q⟩
    have hle := rdNum_le 40 s'
    -- what the inner loop leaves
    have inner : ∀ (h1 : AHeap), After p h (rdNum 40 s').2 h1 → ∀ rd, SW PP rd (.loop (bodyOf 14 1)) (frJ g p q n i (rdNum 40 s').1 (.slice none 0 0) 0) h1 (LQ 2 (fun w : Value => frI g p q n i w) (fun w h2 => After p h (argsN (rdNum 40 s').1 (rdNum 40 s').2).2 h2 ∧ h1.next ≤ h2.next ∧ h.next ≤ h1.next ∧ Own h1.next h2 w ((argsN (rdNum 40 s').1 (rdNum 40 s').2).1.map str)) (fun _ : Unit => fr 57 []) (fun _ _ => False)) := by
      intro h1 a1 rd
      refine (args_loop (s := (rdNum 40 s').2) (m := (rdNum 40 s').1) (v2 := ptr g) (v5 := ptr q) (v16 := .int .i64 (.ofNat n)) (v17 := .int .i64 (.ofNat i)) (rd := rd) (by omega) a1.1).mono ?_
      intro x f h2 q2
      exact LQ.mono q2 (fun w q3 => ⟨w, rfl, a1.trans q3.2, q3.2.2.next, a1.2.next, q3.1⟩) (fun b q3 => q3.elim)
    by_cases hm0 : (rdNum 40 s').1 = 0
    · refine ⟨.br (.call (fun _ : Unit => .int .i64 (.ofNat (rdNum 40 s').1)) (fun _ h' => After p h (rdNum 40 s').2 h') fun _ _ => .loop [2,4,5,6,16,17,20,21] 2 (fun a : Value × AHeap => frI g p q n i a.1) (fun a h2 => lenS 9 a.1 h2 = some (.int .i64 (.ofNat (rdNum 40 s').1)) ∧ E.storeVar h2 42 g 0 zeroG = some a.2 ∧ Grp g a.2 0 0 (.slice none 0 0) ∧ Keep B0 h0 a.2)
        (fun a _ => .val (.int .i64 (.ofNat (rdNum 40 s').1)) (.br (.eff undef a.2 .stop) .stop)) (fun _ : Unit => fr 57 []) (fun _ _ => False) (fun _ _ => .stop)) .stop, ?_⟩
      rw [cmds_ev0]
      refine ⟨fun _ => ⟨c36, fun _ h1 a1 => ⟨fun rd => ?_, ?_, fun _ _ e => e.elim⟩⟩, fun hc => absurd (Int.ofNat_lt.2 hi) (of_decide_eq_false hc)⟩
      · refine (inner h1 a1 rd).mono ?_
        intro x f h2 q2
        refine LQ.mono q2 (fun w q3 => ?_) (fun b q3 => q3.elim)
        obtain ⟨g1, g2, g3, g4, g5, g6⟩ := t.read pl q3.1
        obtain ⟨h3, e3, r3, k3⟩ := g1.storeAll 0 0 (v := .slice none 0 0) rfl
        refine ⟨(w, h3), rfl, ?_, e3, r3, g5.trans (KeepR.toKeep k3 pl.g0 (by have := pl.g0; have := pl.gl; omega))⟩
        have := q3.2.2.2.sl.len (h' := h2) 9
        rw [this, List.length_map, argsN_len]
      · rintro a h2 ⟨e1, e2, e3, e4⟩
        refine ⟨e1, fun _ => ⟨e2, rfl, .inr ⟨rfl, (), (show Less (keepF [2,3] (frR g p q n i)) _ from keepF_less _ _), cmdsN_none (i := i + 1) ?_ (by omega), e3, e4⟩⟩, fun hc => ?_⟩
        · unfold cmdsN
          rw [t.dec]
          simp only [hm0, true_or, if_true]
        · rw [hm0] at hc; cases hc
    · have c39 : ∀ h2 : AHeap, Rd False p h2 (argsN (rdNum 40 s').1 (rdNum 40 s').2).2 → SC PP 39 [ptr p] h2 (fun r h3 => ∃ _ : Unit, r = .ret (.int .i64 (argsN (rdNum 40 s').1 (rdNum 40 s').2).2.2) ∧ h3 = h2) := fun h2 r2 => (rd_err r2).mono fun _ _ q => ⟨(), q⟩
      refine ⟨.br (.call (fun _ : Unit => .int .i64 (.ofNat (rdNum 40 s').1)) (fun _ h' => After p h (rdNum 40 s').2 h') fun _ _ => .loop [2,4,5,6,16,17,20,21] 2 (fun a : Nat × Nat × Nat × Value × Value × AHeap × AHeap × AHeap => frI g p q n i (.slice (some ⟨a.1, 0, none⟩) a.2.1 a.2.2.1))
        (fun a h2 => lenS 9 (.slice (some ⟨a.1, 0, none⟩) a.2.1 a.2.2.1) h2 = some (.int .i64 (.ofNat (rdNum 40 s').1)) ∧ Rd False p h2 (argsN (rdNum 40 s').1 (rdNum 40 s').2).2 ∧
          ((argsN (rdNum 40 s').1 (rdNum 40 s').2).2.2 ≠ 0 → E.storeVar h2 42 g 0 zeroG = some a.2.2.2.2.2.1 ∧ Grp g a.2.2.2.2.2.1 0 0 (.slice none 0 0) ∧ Keep B0 h0 a.2.2.2.2.2.1) ∧
          ((argsN (rdNum 40 s').1 (rdNum 40 s').2).2.2 = 0 → E.loadVar h2 30 q 2 = some a.2.2.2.1 ∧ E.appendA (h2.row [.slice (some ⟨a.1, 0, none⟩) a.2.1 a.2.2.1]) 30 30 a.2.2.2.1 (.slice (some ⟨h2.next, 0, none⟩) 1 2) = some (a.2.2.2.2.1, a.2.2.2.2.2.2.1) ∧
             E.storeVar a.2.2.2.2.2.2.1 30 q 2 a.2.2.2.2.1 = some a.2.2.2.2.2.2.2 ∧ ∃ cs s' cv lv F, St g p q B0 N M H h0 s (i + 1) a.2.2.2.2.2.2.2 cs s' cv lv F))
        (fun a h' => .val (.int .i64 (.ofNat (rdNum 40 s').1)) (.br .stop (.call (fun _ : Unit => .int .i64 (argsN (rdNum 40 s').1 (rdNum 40 s').2).2.2) (fun _ h2 => h2 = h') fun _ _ => .br (.eff undef a.2.2.2.2.2.1 .stop) (.val a.2.2.2.1 (.eff a.2.2.2.2.1 a.2.2.2.2.2.2.1 (.eff undef a.2.2.2.2.2.2.2 .stop))))))
        (fun _ : Unit => fr 57 []) (fun _ _ => False) (fun _ _ => .stop)) .stop, ?_⟩
      rw [cmds_ev]
      refine ⟨fun _ => ⟨c36, fun _ h1 a1 => ⟨fun rd => ?_, ?_, fun _ _ e => e.elim⟩⟩, fun hc => absurd (Int.ofNat_lt.2 hi) (of_decide_eq_false hc)⟩
      · refine (inner h1 a1 rd).mono ?_
        intro x f h2 q2
        refine LQ.mono q2 (fun w q3 => ?_) (fun b q3 => q3.elim)
        obtain ⟨g1, g2, g3, g4, g5, g6⟩ := t.read pl q3.1
        have hw := q3.2.2.2
        have hn1 := q3.2.1
        have hn0 := q3.2.2.1
        have hlen : ((argsN (rdNum 40 s').1 (rdNum 40 s').2).1.map str).length = (rdNum 40 s').1 := by rw [List.length_map, argsN_len]
        generalize hL : ((argsN (rdNum 40 s').1 (rdNum 40 s').2).1.map str) = L at hw hlen
        cases hw with
        | nil => exact absurd hlen.symm hm0
        | row o1 o2 o3 o4 o5 o6 o7 =>
          rename_i b qn sn
          by_cases he : (argsN (rdNum 40 s').1 (rdNum 40 s').2).2.2 = 0
          · have oF : OwnF (fun x => (F x ∧ x < h.next) ∨ h2.next ≤ x) h2 cv lv :=
              own_after (t.own.weak fun b h1 h2 => .inl ⟨h2, h1⟩) q3.1.2 (by
                have := t.lo p; have := pl.pl; have := q3.1.1.lt
                rintro (⟨h1, _⟩ | h1)
                · have := t.lo p h1; omega
                · omega)
            have hll : lv.length = i := by rw [t.lists.len]; exact cmdsN_len _ _ _ _ t.dec
            obtain ⟨u, h3, e3, o3', k3⟩ := ownF_push listsOk (fun x hx => .inr hx) oF (show oneCell (.slice (some ⟨b, 0, none⟩) L.length (named qn L.length)) = true from rfl) (by omega) (by omega)
            have q3' : Grp q h3 N M cv := g2.keep (k3.get q g2.lt (by
              have := pl.ql; have := t.next
              rintro (⟨h1, _⟩ | h1)
              · have := t.lo q h1; omega
              · omega)) k3.next
            have hu : cellsL u = [u] ∧ oneCell u = true := by
              rcases o3'.shape with rfl | ⟨_, _, _, rfl⟩ <;> exact ⟨rfl, rfl⟩
            obtain ⟨h4, e4, r4, k4⟩ := q3'.store2 hu.1 hu.2
            have hgl := pl.gl
            have hpl := pl.pl
            have hql := pl.ql
            have hnx := t.next
            have hlo : ∀ x, x < H.next → ¬ ((F x ∧ x < h.next) ∨ h2.next ≤ x) := by
              rintro x hx (⟨h1, _⟩ | h1)
              · have := t.lo x h1; omega
              · omega
            have kk : Keep B0 h2 h3 := ⟨k3.ng, k3.next, fun x hx => k3.get x (by have := pl.p0; omega) (hlo x (by have := pl.p0; omega)), fun x hx => k3.gr x (by have := pl.p0; omega)⟩
            have k4' := KeepR.toKeep k4 pl.q0 (by have := pl.p0; have := k3.next; omega)
            refine ⟨(b, L.length, named qn L.length, cv, u, h3, h3, h4), rfl, by rw [← hlen]; rfl, q3.1.1, fun h => absurd he h, fun _ => ⟨g2.load2, e3, e4, cs ++ [(argsN (rdNum 40 s').1 (rdNum 40 s').2).1], (argsN (rdNum 40 s').1 (rdNum 40 s').2).2, u, lv ++ [.slice (some ⟨b, 0, none⟩) L.length (named qn L.length)], (fun x => (F x ∧ x < h.next) ∨ h2.next ≤ x), ?_⟩⟩
            refine ⟨?_, ?_, ?_, r4, ?_, ?_, ?_, ?_, ?_, ?_⟩
            · unfold cmdsN
              rw [t.dec]
              simp only [hm0, he, false_or, ne_eq, not_true_eq_false, if_false]
            · exact (q3.1.1.keep (B := H.next) ⟨k3.ng, k3.next, fun x hx => k3.get x (by omega) (hlo x hx), fun x hx => k3.gr x (by omega)⟩ hpl).keep (KeepR.toKeep k4 (Nat.le_refl q) (by have := k3.next; omega)) pl.pq
            · exact (g1.keep (k3.get g (by omega) (hlo g hgl)) k3.next).keep (k4.get g (by have := k3.next; omega) (by have := pl.gp; have := pl.pq; omega)) k4.next
            · exact own_after o3' k4 (hlo q hql)
            · have hg : ∀ x, x < h2.next → ¬ ((F x ∧ x < h.next) ∨ h2.next ≤ x) → x ≠ q → h4.get x = h2.get x := fun x hx hf hq => (k4.get x (by have := k3.next; omega) hq).trans (k3.get x hx hf)
              have hn4 : h2.next ≤ h4.next := Nat.le_trans k3.next k4.next
              have hbF : ¬ ((F b ∧ b < h.next) ∨ h2.next ≤ b) := by rintro (⟨_, h1⟩ | h1) <;> omega
              refine .snoc (g4.keep hn4 (fun x hx hf => hg x hx (fun h5 => h5.elim (fun h6 => hf (.inl h6.1)) (fun h6 => by omega)) (fun h5 => hf (.inr (.inr (.inl h5))))) ?_) ?_ rfl
              · rintro x hx hf (h5 | h5)
                · exact h5.elim (fun h6 => hf (.inl h6.1)) (fun h6 => by omega)
                · exact hf (.inr h5)
              · rw [hL]
                refine .row (by show b < h4.next; omega) ?_ ?_
                · rintro (h5 | h5 | h5 | h5)
                  · exact hbF h5
                  · omega
                  · omega
                  · omega
                · show h4.loadN b 0 L.length = some L
                  rw [loadN_get (hg b o2 hbF (by omega))]
                  exact loadN_all o6
            · rintro x (⟨h1, _⟩ | h1)
              · exact t.lo x h1
              · omega
            · intro x hx
              have hx : h4.next ≤ x := hx
              exact .inr (by have := k3.next; have := k4.next; omega)
            · exact (g5.trans kk).trans k4'
            · have := k3.next; have := k4.next; show H.next ≤ h4.next; omega
          · obtain ⟨h3, e3, r3, k3⟩ := g1.storeAll 0 0 (v := .slice none 0 0) rfl
            exact ⟨(b, L.length, named qn L.length, cv, .slice none 0 0, h3, h3, h3), rfl, by rw [← hlen]; rfl, q3.1.1, fun _ => ⟨e3, r3, g5.trans (KeepR.toKeep k3 pl.g0 (by have := pl.g0; have := pl.gl; omega))⟩, fun h => absurd h he⟩
      · rintro a h2 ⟨e1, e2, e3, e4⟩
        refine ⟨e1, fun hc => absurd (Int.ofNat.inj (of_decide_eq_true hc)) hm0, fun _ => ⟨c39 h2 e2, ?_⟩⟩
        rintro _ h3 rfl
        refine ⟨fun hc => ?_, fun hc => ?_⟩
        · have hne : (argsN (rdNum 40 s').1 (rdNum 40 s').2).2.2 ≠ 0 := by simpa using hc
          obtain ⟨f1, f2, f3⟩ := e3 hne
          refine ⟨f1, rfl, .inr ⟨rfl, (), (show Less (keepF [2,3] (frR g p q n i)) _ from keepF_less _ _), cmdsN_none (i := i + 1) ?_ (by omega), f2, f3⟩⟩
          unfold cmdsN
          rw [t.dec]
          simp only [hne, ne_eq, not_false_eq_true, or_true, if_true]
        · have heq : (argsN (rdNum 40 s').1 (rdNum 40 s').2).2.2 = 0 := by simpa using hc
          obtain ⟨f1, f2, f3, cs2, s2, cv2, lv2, F2, t2⟩ := e4 heq
          refine ⟨f1, f2, f3, rfl, k - 1, by omega, i + 1, by omega, ?_, cs2, s2, cv2, lv2, F2, t2⟩
          rw [wrap_succ (by omega)]
  · refine ⟨.br .stop .stop, ?_⟩
    rw [cmds_ev_end]
    refine ⟨fun hc => hi (Int.ofNat_lt.1 (of_decide_eq_true hc)), fun _ => ?_⟩
    have : i = n := by omega
    subst this
    exact .inl ⟨rfl, (), (show Less (keepF [2,4,5] (frO g p q i i)) _ from keepF_less _ _), cs, s', cv, lv, F, t⟩
end
end Go.Proofs.YtkkbpknpongmfaaGreatDoor
