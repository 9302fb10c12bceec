/-
  Layer 27 (wire) in plain Lean: messages, which may be, their bodies' bytes.
-/

namespace Go.Proofs.YthkfcfkkamffpaaGreat.Pk

/-- a free number's bytes -/
def free (n : Nat) : List UInt8 :=
  if n < 128 then [UInt8.ofNat n] else UInt8.ofNat (n % 128 + 128) :: free (n / 128)
termination_by n
decreasing_by omega

theorem free_small {n : Nat} (h : n < 128) : free n = [UInt8.ofNat n] := by rw [free, if_pos h]
theorem free_big {n : Nat} (h : 128 ≤ n) : free n = UInt8.ofNat (n % 128 + 128) :: free (n / 128) := by rw [free, if_neg (by omega)]
theorem free_ne (n : Nat) : free n ≠ [] := by
  by_cases h : n < 128
  · rw [free_small h]; simp
  · rw [free_big (by omega)]; simp
theorem free_length_pos (n : Nat) : 0 < (free n).length := List.length_pos_iff.2 (free_ne n)

/-- so many bytes at the most -/
theorem free_length_le (k : Nat) : ∀ n : Nat, n < 128 ^ (k + 1) → (free n).length ≤ k + 1 := by
  induction k with
  | zero => intro n h; rw [free_small (by simpa using h)]; simp
  | succ k ih =>
    intro n h
    by_cases hn : n < 128
    · rw [free_small hn]; simp
    · rw [free_big (by omega)]
      have := ih (n / 128) (by rw [Nat.div_lt_iff_lt_mul (by omega)]; rw [Nat.pow_succ] at h; exact h)
      simp; omega
theorem free_length_ten {n : Nat} (h : n < 18446744073709551616) : (free n).length ≤ 10 :=
  free_length_le 9 n (Nat.lt_of_lt_of_le h (by decide))

/-- the last n bytes of a number, the highest first -/
def be : Nat → Int → List UInt8
  | 0, _ => []
  | n + 1, x => UInt8.ofNat (x / 256 ^ n % 256).toNat :: be n x
theorem be_length (n : Nat) (x : Int) : (be n x).length = n := by
  induction n with
  | zero => rfl
  | succ n ih => simp [be, ih]
theorem byte_of (y : Int) : y % 256 = ((UInt8.ofNat (y % 256).toNat).toNat : Int) := by
  simp
  omega

/-- the free number of a signed one -/
def zig (n : Int) : Nat := if 0 ≤ n then (2 * n).toNat else (-2 * n - 1).toNat

/-- what reading a free number comes to -/
inductive Got where
  | bad (code : Nat)
  | good (n used : Nat)
  deriving DecidableEq

/-- read a free number: i bytes are behind us, n is what they said -/
def get : List UInt8 → Nat → Nat → Got
  | [], _, _ => .bad 10
  | b :: r, i, n =>
    if (i = 9 ∧ 1 < b.toNat) ∨ (0 < i ∧ b.toNat = 0) then .bad 11
    else if b.toNat < 128 then .good (n + b.toNat * 128 ^ i) (i + 1)
    else get r (i + 1) (n + (b.toNat - 128) * 128 ^ i)

theorem pow9 : 128 ^ 9 = 9223372036854775808 := by decide
theorem pow_ge9 {i : Nat} (h : 9 ≤ i) : 9223372036854775808 ≤ 128 ^ i := by
  rw [← pow9]; exact Nat.pow_le_pow_right (by decide) h

theorem get_free_at (m : Nat) : ∀ (r : List UInt8) (i n : Nat), m * 128 ^ i < 18446744073709551616 → (0 < i → m ≠ 0) →
    get (free m ++ r) i n = .good (n + m * 128 ^ i) (i + (free m).length) := by
  induction m using Nat.strongRecOn with
  | _ m ih =>
    intro r i n hlt h0
    by_cases hm : m < 128
    · rw [free_small hm]
      have hb : (UInt8.ofNat m).toNat = m := by simp; omega
      simp only [List.cons_append, List.nil_append, get, hb]
      rw [if_neg, if_pos hm]
      · rfl
      · rintro (⟨rfl, h⟩ | ⟨h, h'⟩)
        · rw [pow9] at hlt; omega
        · exact h0 h h'
    · rw [free_big (by omega)]
      have hb : (UInt8.ofNat (m % 128 + 128)).toNat = m % 128 + 128 := by simp; omega
      have hi : i < 9 := by
        rcases Nat.lt_or_ge i 9 with h | h
        · exact h
        · have h1 := pow_ge9 h
          have h2 : 128 * 128 ^ i ≤ m * 128 ^ i := Nat.mul_le_mul_right _ (by omega)
          omega
      simp only [List.cons_append, get, hb]
      rw [if_neg (by omega), if_neg (by omega)]
      have h2 : m / 128 * 128 ^ (i + 1) = (128 * (m / 128)) * 128 ^ i := by
        rw [Nat.pow_succ, Nat.mul_comm (128 ^ i) 128, ← Nat.mul_assoc, Nat.mul_comm (m / 128) 128]
      have h3 : (128 * (m / 128)) * 128 ^ i ≤ m * 128 ^ i := Nat.mul_le_mul_right _ (by omega)
      rw [ih (m / 128) (by omega) r (i + 1) _ (by omega) (fun _ => by omega)]
      have e : n + (m % 128 + 128 - 128) * 128 ^ i + m / 128 * 128 ^ (i + 1) = n + m * 128 ^ i := by
        rw [h2, show m % 128 + 128 - 128 = m % 128 by omega, Nat.add_assoc, ← Nat.add_mul, Nat.mod_add_div]
      rw [e]
      simp only [List.length_cons]
      congr 1
      omega
theorem get_free {m : Nat} (h : m < 18446744073709551616) (r : List UInt8) : get (free m ++ r) 0 0 = .good m (free m).length := by
  rw [get_free_at m r 0 0 (by simpa using h) (fun h => absurd h (by omega))]; simp

/-- what was read stands there in its one form -/
theorem get_sound (l : List UInt8) : ∀ (i n v k : Nat), i ≤ 9 → get l i n = .good v k →
    ∃ m, v = n + m * 128 ^ i ∧ i ≤ k ∧ k - i ≤ l.length ∧ l.take (k - i) = free m ∧ m * 128 ^ i < 18446744073709551616 ∧ (0 < i → m ≠ 0) := by
  induction l with
  | nil => intro i n v k _ h; simp [get] at h
  | cons b r ih =>
    intro i n v k hi h
    have hlt := b.toNat_lt
    simp only [get] at h
    split at h
    · cases h
    rename_i hno
    split at h
    · rename_i hb
      injection h with h1 h2
      refine ⟨b.toNat, h1.symm, by omega, by simp; omega, ?_, ?_, ?_⟩
      · rw [← h2, free_small hb, show i + 1 - i = 1 by omega]; simp
      · rcases Nat.lt_or_ge i 9 with h9 | h9
        · have h1 : 128 ^ i ≤ 128 ^ 8 := Nat.pow_le_pow_right (by decide) (by omega)
          have h2 : (128 : Nat) ^ 8 = 72057594037927936 := by decide
          have h3 : b.toNat * 128 ^ i ≤ 127 * 72057594037927936 := Nat.mul_le_mul (by omega) (by omega)
          omega
        · obtain rfl : i = 9 := by omega
          rw [pow9]
          omega
      · omega
    · rename_i hb
      have hi' : i < 9 := by omega
      obtain ⟨m, hv, hk, hl, ht, hm, h0⟩ := ih (i + 1) _ v k (by omega) h
      have hm0 := h0 (by omega)
      have h2 : m * 128 ^ (i + 1) = (128 * m) * 128 ^ i := by
        rw [Nat.pow_succ, Nat.mul_comm (128 ^ i) 128, ← Nat.mul_assoc, Nat.mul_comm m 128]
      refine ⟨b.toNat - 128 + 128 * m, ?_, by omega, by simp; omega, ?_, ?_, by omega⟩
      · rw [hv, h2, Nat.add_mul, Nat.add_assoc]
      · rw [free_big (by omega), show k - i = (k - (i + 1)) + 1 by omega, List.take_succ_cons, ht]
        congr 1
        · apply UInt8.toNat_inj.1
          simp; omega
        · congr 1; omega
      · have hq : 128 ^ (i + 1) * (2 * 128 ^ (8 - i)) = 18446744073709551616 := by
          rw [← Nat.mul_assoc, Nat.mul_comm _ 2, Nat.mul_assoc, ← Nat.pow_add, show i + 1 + (8 - i) = 9 by omega, pow9]
        generalize 2 * 128 ^ (8 - i) = q at hq
        have hmq : m < q := by
          refine Nat.lt_of_mul_lt_mul_left (a := 128 ^ (i + 1)) ?_
          rw [hq, Nat.mul_comm]; exact hm
        have h6 : (m + 1) * 128 ^ (i + 1) ≤ 128 ^ (i + 1) * q := by rw [Nat.mul_comm]; exact Nat.mul_le_mul_left _ hmq
        rw [hq, Nat.add_mul, h2] at h6
        have h7 : (b.toNat - 128) * 128 ^ i ≤ 127 * 128 ^ i := Nat.mul_le_mul_right _ (by omega)
        have h8 : 128 ^ (i + 1) = 128 * 128 ^ i := by rw [Nat.pow_succ, Nat.mul_comm]
        have h9 : 0 < 128 ^ i := Nat.pow_pos (by decide)
        rw [Nat.add_mul]
        generalize 128 ^ i = c at *
        omega


/-- a reader: its bytes, its place, its fault (0: none) -/
structure Rd where
  s : List UInt8
  pos : Nat
  f : Nat
def Rd.left (r : Rd) : Nat := r.s.length - r.pos
/-- a free number is read -/
def Rd.free (r : Rd) (most : Nat) : Nat × Rd :=
  if r.f ≠ 0 then (0, r) else
  match get (r.s.drop r.pos) 0 0 with
  | .bad c => (0, { r with f := c })
  | .good v k => if most < v then (0, { r with f := 12 }) else (v, { r with pos := r.pos + k })
/-- so many bytes are read -/
def Rd.raw (r : Rd) (n : Int) : List UInt8 × Rd :=
  if r.f ≠ 0 ∨ n ≤ 0 then ([], r) else
  if (r.left : Int) < n then ([], { r with f := 10 }) else ((r.s.drop r.pos).take n.toNat, { r with pos := r.pos + n.toNat })
/-- bytes as a number, the highest first -/
def num (l : List UInt8) : Nat := l.foldl (fun x b => x * 256 + b.toNat) 0
/-- a fixed number of n bytes is read -/
def Rd.take (r : Rd) (n : Nat) : Nat × Rd :=
  if r.f ≠ 0 then (0, r) else
  if r.left < n then (0, { r with f := 10 }) else (num ((r.s.drop r.pos).take n), { r with pos := r.pos + n })
/-- a text is read -/
def Rd.text (r : Rd) (most : Int) : List UInt8 × Rd :=
  if r.f ≠ 0 then ([], r) else
  let p := r.free most.toNat
  if p.2.f ≠ 0 then ([], p.2) else
  if p.2.left < p.1 then ([], { p.2 with f := 10, pos := r.pos }) else p.2.raw p.1

theorem Rd.free_dead {r : Rd} (most : Nat) (hf : r.f ≠ 0) : r.free most = (0, r) := by unfold Rd.free; rw [if_pos hf]
theorem Rd.free_bad {r : Rd} (most : Nat) {c : Nat} (hf : r.f = 0) (h : get (r.s.drop r.pos) 0 0 = .bad c) : r.free most = (0, ⟨r.s, r.pos, c⟩) := by
  unfold Rd.free; rw [if_neg (by omega), h]
theorem Rd.free_most {r : Rd} {most v k : Nat} (hf : r.f = 0) (h : get (r.s.drop r.pos) 0 0 = .good v k) (hv : most < v) : r.free most = (0, ⟨r.s, r.pos, 12⟩) := by
  unfold Rd.free; rw [if_neg (by omega), h]; simp only [if_pos hv]
theorem Rd.free_good {r : Rd} {most v k : Nat} (hf : r.f = 0) (h : get (r.s.drop r.pos) 0 0 = .good v k) (hv : v ≤ most) : r.free most = (v, ⟨r.s, r.pos + k, r.f⟩) := by
  unfold Rd.free; rw [if_neg (by omega), h]; simp only [if_neg (show ¬ most < v by omega)]
theorem get_nil (i n : Nat) : get [] i n = .bad 10 := rfl
theorem get_pack {b : UInt8} {r : List UInt8} {i n : Nat} (h : (i = 9 ∧ 1 < b.toNat) ∨ (0 < i ∧ b.toNat = 0)) : get (b :: r) i n = .bad 11 := by simp only [get, if_pos h]
theorem get_last {b : UInt8} {r : List UInt8} {i n : Nat} (h : ¬ ((i = 9 ∧ 1 < b.toNat) ∨ (0 < i ∧ b.toNat = 0))) (hb : b.toNat < 128) : get (b :: r) i n = .good (n + b.toNat % 128 * 128 ^ i) (i + 1) := by
  simp only [get, if_neg h, if_pos hb, Nat.mod_eq_of_lt hb]
theorem get_more {b : UInt8} {r : List UInt8} {i n : Nat} (h : ¬ ((i = 9 ∧ 1 < b.toNat) ∨ (0 < i ∧ b.toNat = 0))) (hb : 128 ≤ b.toNat) : get (b :: r) i n = get r (i + 1) (n + b.toNat % 128 * 128 ^ i) := by
  have := b.toNat_lt
  simp only [get, if_neg h, if_neg (show ¬ b.toNat < 128 by omega), show b.toNat % 128 = b.toNat - 128 by omega]

end Go.Proofs.YthkfcfkkamffpaaGreat.Pk
namespace Go.Proofs.YthkfcfkkamffpaaGreat.Pk
variable {α : Type}
def Rd.loop (step : Rd → α × Rd) : Nat → List α → Rd → List α × Rd
  | 0, acc, r => (acc, r)
  | n + 1, acc, r => if (step r).2.f ≠ 0 then ([], (step r).2) else Rd.loop step n (acc ++ [(step r).1]) (step r).2
/-- how often the function is called -/
def Rd.count (step : Rd → α × Rd) : Nat → Rd → Nat
  | 0, _ => 0
  | n + 1, r => 1 + if (step r).2.f ≠ 0 then 0 else Rd.count step n (step r).2
/-- how many things there are; the reader behind that -/
def Rd.heads (r : Rd) (most : Int) : Nat × Rd :=
  if r.f ≠ 0 then (0, r) else
  if (r.free most.toNat).2.f ≠ 0 then (0, (r.free most.toNat).2) else
  if (r.free most.toNat).2.left < (r.free most.toNat).1 then (0, { (r.free most.toNat).2 with f := 12, pos := r.pos }) else r.free most.toNat
def Rd.list (r : Rd) (most : Int) (step : Rd → α × Rd) : List α × Rd := Rd.loop step (r.heads most).1 [] (r.heads most).2
theorem Rd.loop_bad {step : Rd → α × Rd} {n : Nat} {acc : List α} {r : Rd} (h : (step r).2.f ≠ 0) : Rd.loop step (n + 1) acc r = ([], (step r).2) := by simp only [Rd.loop, if_pos h]
theorem Rd.loop_good {step : Rd → α × Rd} {n : Nat} {acc : List α} {r : Rd} (h : (step r).2.f = 0) : Rd.loop step (n + 1) acc r = Rd.loop step n (acc ++ [(step r).1]) (step r).2 := by
  simp only [Rd.loop, if_neg (show ¬ (step r).2.f ≠ 0 by omega)]
theorem Rd.count_bad {step : Rd → α × Rd} {n : Nat} {r : Rd} (h : (step r).2.f ≠ 0) : Rd.count step (n + 1) r = 1 := by simp only [Rd.count, if_pos h]
theorem Rd.count_good {step : Rd → α × Rd} {n : Nat} {r : Rd} (h : (step r).2.f = 0) : Rd.count step (n + 1) r = 1 + Rd.count step n (step r).2 := by
  simp only [Rd.count, if_neg (show ¬ (step r).2.f ≠ 0 by omega)]
end Go.Proofs.YthkfcfkkamffpaaGreat.Pk
namespace Go.Proofs.YthkfcfkkamffpaaGreat.Wm
set_option linter.unusedVariables false
/-- a message -/
structure M where
  kind : Nat
  id : Nat
  code : Int
  key : List UInt8
  to : List UInt8
  val : List UInt8
  limit : Int
  frm : Nat
  size : Nat
  found : Bool
  more : Bool
  hsize : Nat
  hlog : List UInt8
  ever : Nat
  ecnt : Nat
  esum : List UInt8
  enote : List UInt8
  trail : List (List UInt8)
  since : List (List UInt8)
  pairs : List (List UInt8 × List UInt8)
  way : List Int
  bytes : List UInt8
  deriving DecidableEq
/-- a whole digest of noughts -/
def nod : List UInt8 := List.replicate 32 0
/-- a message that has a kind and a number alone -/
def only (k i : Nat) : M := ⟨k, i, 0, [], [], [], 0, 0, 0, false, false, 0, nod, 0, 0, nod, [], [], [], [], [], []⟩
/-- a field -/
inductive Fd where
  | K | T | V | L | F | S | f | m | C | H | E | t | s | P | W | B
  deriving DecidableEq
/-- a kind's fields -/
def fields (k : Nat) : Option (List Fd) :=
  if k = 1 then some [.F] else if k = 2 then some [.K] else if k = 3 then some [.K, .T, .L] else if k = 4 then some [.K, .V] else if k = 5 then some [.K] else if k = 6 then some [.V]
  else if k = 7 then some [] else if k = 8 then some [.K] else if k = 9 then some [.K, .T] else if k = 10 then some [.F, .S] else if k = 11 then some [.F, .S] else if k = 12 then some [.W]
  else if k = 21 then some [.f] else if k = 22 then some [.C] else if k = 23 then some [.H, .E, .t, .s] else if k = 24 then some [.f, .V] else if k = 25 then some [.P, .m]
  else if k = 26 then some [.B] else if k = 27 then some [.E, .t] else if k = 28 then some [.t] else if k = 29 then some [.B] else none
/-- a message with a field of another one -/
def put (n m : M) : Fd → M
  | .K => { n with key := m.key }
  | .T => { n with to := m.to }
  | .V => { n with val := m.val }
  | .L => { n with limit := m.limit }
  | .F => { n with frm := m.frm }
  | .S => { n with size := m.size }
  | .f => { n with found := m.found }
  | .m => { n with more := m.more }
  | .C => { n with code := m.code }
  | .H => { n with hsize := m.hsize, hlog := m.hlog }
  | .E => { n with ever := m.ever, ecnt := m.ecnt, esum := m.esum, enote := m.enote }
  | .t => { n with trail := m.trail }
  | .s => { n with since := m.since }
  | .P => { n with pairs := m.pairs }
  | .W => { n with way := m.way }
  | .B => { n with bytes := m.bytes }
def short (l : List UInt8) : Bool := decide (l.length ≤ 1024)
/-- may a field be? -/
def fit (m : M) : Fd → Bool
  | .K => short m.key
  | .T => short m.to
  | .V => short m.val
  | .L => decide (0 ≤ m.limit ∧ m.limit ≤ 256)
  | .F => true
  | .S => true
  | .f => true
  | .m => true
  | .C => decide (1 ≤ m.code ∧ m.code ≤ 65535)
  | .H => true
  | .E => decide (m.enote.length ≤ 32)
  | .t => decide (m.trail.length ≤ 64)
  | .s => decide (m.since.length ≤ 64)
  | .P => decide (m.pairs.length ≤ 256) && m.pairs.all fun p => short p.1 && short p.2
  | .W => decide (m.way.length ≤ 33) && m.way.all fun n => decide (0 ≤ n ∧ n ≤ 65535)
  | .B => decide (m.bytes.length ≤ 1048576)
def bit (b : Bool) : List UInt8 := if b then [1] else [0]
/-- a field's bytes -/
def fb (m : M) : Fd → List UInt8
  | .K => Pk.free m.key.length ++ m.key
  | .T => Pk.free m.to.length ++ m.to
  | .V => Pk.free m.val.length ++ m.val
  | .L => Pk.free m.limit.toNat
  | .F => Pk.free m.frm
  | .S => Pk.free m.size
  | .f => bit m.found
  | .m => bit m.more
  | .C => Pk.free m.code.toNat
  | .H => Pk.free m.hsize ++ m.hlog
  | .E => Pk.free m.ever ++ (Pk.free m.ecnt ++ (m.esum ++ (Pk.free m.enote.length ++ m.enote)))
  | .t => Pk.free m.trail.length ++ m.trail.flatten
  | .s => Pk.free m.since.length ++ m.since.flatten
  | .P => Pk.free m.pairs.length ++ m.pairs.flatMap fun p => (Pk.free p.1.length ++ p.1) ++ (Pk.free p.2.length ++ p.2)
  | .W => Pk.free m.way.length ++ m.way.flatMap fun n => Pk.free n.toNat
  | .B => Pk.free m.bytes.length ++ m.bytes
/-- are its bytes alone above a frame? -/
def tooLong (m : M) : Bool := (m.kind == 26 || m.kind == 29) && decide (1048576 < m.bytes.length)
/-- the fields that a kind has, of a message -/
def sel (l : List Fd) (m : M) : M := l.foldl (fun n c => put n m c) (only m.kind m.id)
def mayF (l : List Fd) (m : M) : Bool := (tooLong m || l.all (fit m)) && decide (sel l m = m)
def body (l : List Fd) (m : M) : List UInt8 := (Pk.be 1 m.kind ++ Pk.be 4 m.id) ++ l.flatMap (fb m)
end Go.Proofs.YthkfcfkkamffpaaGreat.Wm
