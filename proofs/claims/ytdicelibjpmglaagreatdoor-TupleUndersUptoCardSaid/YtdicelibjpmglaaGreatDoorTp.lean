/-
  Layer 3 (tuple) in plain Lean: items, which may be, how many bytes they take, their bytes, their order.
-/
import Derived.Test.YtdicelibjpmglaaGreatDoorPk
namespace Go.Proofs.YtdicelibjpmglaaGreatDoor.Tp
set_option linter.unusedVariables false
/-- an item: its kind, truth, number, float's bits, text, list -/
inductive It where
  | mk (k : Nat) (b : Bool) (n : Int) (f : Nat) (t : List UInt8) (l : List It)
/-- may an item be, its list not looked into? -/
def fitB (k : Nat) : Bool := decide (1 ≤ k ∧ k ≤ 6)
def cleanB (k : Nat) (b : Bool) (n : Int) (f : Nat) (t : List UInt8) (l : List It) : Bool := (k == 2 || !b) && ((k == 3 || n == 0) && ((k == 4 || f == 0) && ((k == 5 || t.isEmpty) && (k == 6 || l.isEmpty))))
def mayB (k : Nat) (b : Bool) (n : Int) (f : Nat) (t : List UInt8) (l : List It) : Bool := fitB k && cleanB k b n f t l
/-- how many bytes hold a number -/
def nb (n : Nat) : Nat :=
  if n = 0 then 0 else if n < 256 then 1 else if n < 65536 then 2 else if n < 16777216 then 3 else if n < 4294967296 then 4 else if n < 1099511627776 then 5 else if n < 281474976710656 then 6 else if n < 72057594037927936 then 7 else 8
/-- how many bytes an item takes, its list's items left out -/
def len1 (k : Nat) (n : Int) (t : List UInt8) : Nat :=
  if k = 3 then 1 + nb n.natAbs else if k = 4 then 9 else if k = 5 then 3 + t.length + t.count 0 else if k = 6 then 2 else 1
/-- the walk of items at a depth: how many stood ahead, how many bytes; then those and the first error -/
def look : List It → Nat → Nat → Nat → Nat × Nat × Int
  | [], _, i, s => (i, s, 0)
  | .mk k b n f t ls :: l, d, i, s =>
    if i = 64 then (i, s, 31) else if mayB k b n f t ls = false then (i, s, 30) else if k = 6 ∧ 8 ≤ d then (i, s, 32)
    else
      let r := look ls (d + 1) (i + 1) (s + len1 k n t)
      if r.2.2 = 0 then look l d r.1 r.2.1 else r
/-- how many bytes items take -/
def sz : List It → Nat
  | [] => 0
  | .mk k b n f t ls :: l => len1 k n t + sz ls + sz l
/-- how many items there are, lists gone through -/
def cnt : List It → Nat
  | [] => 0
  | .mk _ _ _ _ _ ls :: l => 1 + cnt ls + cnt l
def check (l : List It) : Int := if (look l 0 0 0).2.2 ≠ 0 then (look l 0 0 0).2.2 else if 4096 < (look l 0 0 0).2.1 then 4 else 0
/-- the walk has gone well: what it counted -/
theorem look_ok : ∀ (l : List It) (d i s : Nat), (look l d i s).2.2 = 0 → (look l d i s).1 = i + cnt l ∧ (look l d i s).2.1 = s + sz l
  | [], d, i, s => by intro _; simp [look, cnt, sz]
  | .mk k b n f t ls :: l, d, i, s => by
    have h1 := look_ok ls (d + 1) (i + 1) (s + len1 k n t)
    unfold look
    split
    · intro h; simp at h
    split
    · intro h; simp at h
    split
    · intro h; simp at h
    dsimp only
    split
    · rename_i h0
      obtain ⟨a1, a2⟩ := h1 h0
      intro h
      have h2 := look_ok l d _ _ h
      rw [h2.1, h2.2, a1, a2]
      simp only [cnt, sz]
      omega
    · rename_i h0
      intro h; exact absurd h h0
theorem look_le : ∀ (l : List It) (d i s : Nat), i ≤ 64 → i ≤ (look l d i s).1 ∧ (look l d i s).1 ≤ 64 ∧ s ≤ (look l d i s).2.1 ∧ (look l d i s).2.1 ≤ s + sz l ∧ (0 ≤ (look l d i s).2.2 ∧ (look l d i s).2.2 ≤ 32)
  | [], d, i, s => by intro h; simp [look, sz]; exact h
  | .mk k b n f t ls :: l, d, i, s => by
    intro h
    unfold look
    split
    · refine ⟨Nat.le_refl _, h, Nat.le_refl _, by simp, by simp⟩
    split
    · refine ⟨Nat.le_refl _, h, Nat.le_refl _, by simp, by simp⟩
    split
    · refine ⟨Nat.le_refl _, h, Nat.le_refl _, by simp, by simp⟩
    obtain ⟨a1, a2, a3, a4, a5⟩ := look_le ls (d + 1) (i + 1) (s + len1 k n t) (by omega)
    dsimp only
    split
    · obtain ⟨b1, b2, b3, b4, b5⟩ := look_le l d (look ls (d + 1) (i + 1) (s + len1 k n t)).1 (look ls (d + 1) (i + 1) (s + len1 k n t)).2.1 a2
      simp only [sz]
      exact ⟨by omega, b2, by omega, by omega, b5⟩
    · simp only [sz]
      exact ⟨by omega, a2, by omega, by omega, a5⟩
/-- is a float no number? -/
def nan (f : Nat) : Bool := decide (9218868437227405312 < f % 9223372036854775808)
def theNaN : Nat := 9221120237041090560
/-- a float's bits, any NaN's those of the one NaN -/
def fbits (f : Nat) : Nat := if nan f then theNaN else f
/-- a float's place among floats -/
def key (f : Nat) : Nat := if 9223372036854775808 ≤ fbits f then 18446744073709551615 - fbits f else fbits f + 9223372036854775808
/-- a text's bytes, 00 as 00 ff -/
def esc : List UInt8 → List UInt8
  | [] => []
  | b :: l => if b = 0 then 0 :: 255 :: esc l else b :: esc l
theorem esc_append (l m : List UInt8) : esc (l ++ m) = esc l ++ esc m := by
  induction l with
  | nil => rfl
  | cons b l ih => simp only [List.cons_append, esc]; split <;> simp [ih]
theorem esc_length (l : List UInt8) : (esc l).length = l.length + l.count 0 := by
  induction l with
  | nil => rfl
  | cons b l ih =>
    simp only [esc, List.length_cons, List.count_cons]
    split
    · rename_i h; subst h; simp [ih]; omega
    · rename_i h
      have h' : ¬ ((b == 0) = true) := by simpa using h
      simp only [List.length_cons, ih]
      rw [if_neg h']; omega
def intB (n : Int) : List UInt8 := if 0 ≤ n then UInt8.ofNat (20 + nb n.natAbs) :: Pk.be (nb n.natAbs) n else UInt8.ofNat (20 - nb n.natAbs) :: Pk.be (nb n.natAbs) (n - 1)
/-- an item's bytes, its list's given -/
def one (k : Nat) (b : Bool) (n : Int) (f : Nat) (t : List UInt8) (inner : List UInt8) : List UInt8 :=
  if k = 1 then [1] else if k = 2 then [if b then 3 else 2] else if k = 3 then intB n else if k = 4 then 32 :: Pk.be 8 (key f) else if k = 5 then 36 :: (esc t ++ [0, 1]) else 40 :: (inner ++ [0])
/-- items' bytes -/
def byt : List It → List UInt8
  | [] => []
  | .mk k b n f t ls :: l => one k b n f t (byt ls) ++ byt l
theorem nb_le (n : Nat) : nb n ≤ 8 := by
  unfold nb
  repeat' split
  all_goals omega
/-- the bytes of items that may be are as many as counted -/
theorem byt_length : ∀ (l : List It) (d i s : Nat), (look l d i s).2.2 = 0 → (byt l).length = sz l
  | [], d, i, s => by intro _; simp [byt, sz]
  | .mk k b n f t ls :: l, d, i, s => by
    have h1 := byt_length ls (d + 1) (i + 1) (s + len1 k n t)
    unfold look
    split
    · intro h; simp at h
    split
    · intro h; simp at h
    split
    · intro h; simp at h
    rename_i hm _
    dsimp only
    split
    · rename_i h0
      intro h
      have h2 := byt_length l d _ _ h
      have h3 := h1 h0
      simp only [byt, sz, List.length_append, h2]
      have hls : k ≠ 6 → ls = [] := by
        intro hk
        have : mayB k b n f t ls = true := by simpa using hm
        unfold mayB cleanB at this
        simp only [Bool.and_eq_true, Bool.or_eq_true] at this
        rcases this.2.2.2.2.2 with h | h
        · exact absurd (by simpa using h) hk
        · simpa using h
      have hk6 : 1 ≤ k ∧ k ≤ 6 := by
        have : mayB k b n f t ls = true := by simpa using hm
        unfold mayB fitB at this
        simp only [Bool.and_eq_true, decide_eq_true_iff] at this
        exact this.1
      have key : (one k b n f t (byt ls)).length = len1 k n t + sz ls := by
        unfold one len1
        by_cases k1 : k = 1
        · subst k1; rw [hls (by decide)]; simp [sz]
        by_cases k2 : k = 2
        · subst k2; rw [hls (by decide)]; simp [sz]
        by_cases k3 : k = 3
        · subst k3; rw [hls (by decide)]; simp [sz, intB]; split <;> simp [Pk.be_length] <;> try omega
        by_cases k4 : k = 4
        · subst k4; rw [hls (by decide)]; simp [sz, Pk.be_length]
        by_cases k5 : k = 5
        · subst k5; rw [hls (by decide)]; simp [sz, esc_length]; try omega
        · obtain rfl : k = 6 := by omega
          simp [h3]
          try omega
      rw [key]
    · rename_i h0
      intro h; exact absurd h h0
/-- may all items be, those of lists too? -/
def okB : List It → Bool
  | [] => true
  | .mk k b n f t ls :: l => mayB k b n f t ls && okB ls && okB l
theorem okB_look : ∀ (l : List It) (d i s : Nat), (look l d i s).2.2 = 0 → okB l = true
  | [], d, i, s => by intro _; simp [okB]
  | .mk k b n f t ls :: l, d, i, s => by
    have h1 := okB_look ls (d + 1) (i + 1) (s + len1 k n t)
    unfold look
    split
    · intro h; simp at h
    split
    · intro h; simp at h
    split
    · intro h; simp at h
    rename_i hm _
    dsimp only
    split
    · rename_i h0
      intro h
      have h2 := okB_look l d _ _ h
      have hm' : mayB k b n f t ls = true := by simpa using hm
      simp [okB, hm', h1 h0, h2]
    · rename_i h0
      intro h; exact absurd h h0
theorem okB_mem {l : List It} {k : Nat} {b : Bool} {n : Int} {f : Nat} {t : List UInt8} {ls : List It} (h : okB l = true) (hm : It.mk k b n f t ls ∈ l) : mayB k b n f t ls = true ∧ okB ls = true := by
  induction l with
  | nil => cases hm
  | cons x l ih =>
    obtain ⟨k', b', n', f', t', ls'⟩ := x
    simp only [okB, Bool.and_eq_true] at h
    rcases List.mem_cons.1 hm with e | e
    · injection e with e1 e2 e3 e4 e5 e6
      subst e1 e2 e3 e4 e5 e6
      exact h.1
    · exact ih h.2 e
theorem mayB_kind {k : Nat} {b : Bool} {n : Int} {f : Nat} {t : List UInt8} {ls : List It} (h : mayB k b n f t ls = true) : 1 ≤ k ∧ k ≤ 6 := by
  unfold mayB fitB at h
  simp only [Bool.and_eq_true, decide_eq_true_iff] at h
  exact h.1
theorem mayB_list {k : Nat} {b : Bool} {n : Int} {f : Nat} {t : List UInt8} {ls : List It} (h : mayB k b n f t ls = true) (hk : k ≠ 6) : ls = [] := by
  unfold mayB cleanB at h
  simp only [Bool.and_eq_true, Bool.or_eq_true] at h
  rcases h.2.2.2.2.2 with h | h
  · exact absurd (by simpa using h) hk
  · simpa using h
theorem sz_append (l m : List It) : sz (l ++ m) = sz l + sz m := by
  induction l with
  | nil => simp [sz]
  | cons x l ih => obtain ⟨k, b, n, f, t, ls⟩ := x; simp only [List.cons_append, sz, ih]; omega
theorem sz_take_le (l : List It) (j : Nat) : sz (l.take j) ≤ sz l := by
  have := sz_append (l.take j) (l.drop j)
  rw [List.take_append_drop] at this
  omega
/-- of two numbers -/
def cmpI (a b : Int) : Int := if a < b then -1 else if b < a then 1 else 0
/-- of two texts -/
def cmpL : List UInt8 → List UInt8 → Int
  | [], [] => 0
  | [], _ :: _ => -1
  | _ :: _, [] => 1
  | a :: l, b :: m => if a.toNat < b.toNat then -1 else if b.toNat < a.toNat then 1 else cmpL l m
def tru (b : Bool) : Int := if b then 1 else 0
/-- of two items that may be, their lists' order given -/
def heldV (k : Nat) (b : Bool) (n : Int) (f : Nat) (t : List UInt8) (k' : Nat) (b' : Bool) (n' : Int) (f' : Nat) (t' : List UInt8) (o : Int) : Int :=
  if k ≠ k' then cmpI k k' else if k = 2 then tru b - tru b' else if k = 3 then cmpI n n' else if k = 4 then cmpI (key f) (key f') else if k = 5 then cmpL t t' else o
def side : List It → List It → Int
  | [], [] => 0
  | [], _ :: _ => -1
  | _ :: _, [] => 1
  | .mk k b n f t ls :: l, .mk k' b' n' f' t' ls' :: l' =>
    if heldV k b n f t k' b' n' f' t' (side ls ls') ≠ 0 then heldV k b n f t k' b' n' f' t' (side ls ls') else side l l'
def held : It → It → Int
  | .mk k b n f t ls, .mk k' b' n' f' t' ls' => heldV k b n f t k' b' n' f' t' (side ls ls')
end Go.Proofs.YtdicelibjpmglaaGreatDoor.Tp
