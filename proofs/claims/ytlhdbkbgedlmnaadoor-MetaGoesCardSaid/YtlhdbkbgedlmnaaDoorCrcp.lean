/-
  The CRC in plain Lean: the register, bit by bit and byte by byte; a byte that is turned turns it. No program here.
-/
namespace Go.Proofs.YtlhdbkbgedlmnaaDoor.Crc

/-- a number that fits 32 bits -/
def U32 (n : Nat) : Prop := n < 4294967296
def poly : Nat := 3988292384
/-- one bit goes through the register -/
def bstep (r : Nat) : Nat := if r % 2 = 1 then (r / 2) ^^^ poly else r / 2
def steps : Nat → Nat → Nat
  | 0, r => r
  | k + 1, r => bstep (steps k r)
/-- bytes go through the register -/
def feed (r : Nat) (l : List UInt8) : Nat := l.foldl (fun r b => steps 8 (r ^^^ b.toNat)) r
def crc (l : List UInt8) : Nat := 4294967295 - feed 4294967295 l

theorem u32_xor {a b : Nat} (ha : U32 a) (hb : U32 b) : U32 (a ^^^ b) := by
  unfold U32 at *
  exact Nat.xor_lt_two_pow (n := 32) ha hb
theorem u32_poly : U32 poly := by unfold U32 poly; omega
theorem u32_bstep {r : Nat} (h : U32 r) : U32 (bstep r) := by
  have h2 : U32 (r / 2) := by unfold U32 at *; omega
  unfold bstep
  split
  · exact u32_xor h2 u32_poly
  · exact h2
theorem u32_steps {r : Nat} (h : U32 r) : ∀ k, U32 (steps k r)
  | 0 => h
  | k + 1 => u32_bstep (u32_steps h k)
theorem u32_byte (b : UInt8) : U32 b.toNat := by have := b.toNat_lt; unfold U32; omega
theorem feed_cons (r : Nat) (b : UInt8) (l : List UInt8) : feed r (b :: l) = feed (steps 8 (r ^^^ b.toNat)) l := by unfold feed; rw [List.foldl_cons]
theorem u32_feed (l : List UInt8) : ∀ {r : Nat}, U32 r → U32 (feed r l) := by
  induction l with
  | nil => intro r h; exact h
  | cons b l ih => intro r h; rw [feed_cons]; exact ih (u32_steps (u32_xor h (u32_byte b)) 8)
theorem feed_append (r : Nat) (l m : List UInt8) : feed r (l ++ m) = feed (feed r l) m := by simp [feed]
theorem feed_snoc (r : Nat) (l : List UInt8) (b : UInt8) : feed r (l ++ [b]) = steps 8 (feed r l ^^^ b.toNat) := by simp [feed]

/-- the document's bit: the register and a bit that comes in -/
def rbit (r b : Nat) : Nat := if r % 2 ≠ b then (r / 2) ^^^ poly else r / 2
def rsteps : Nat → Nat → Nat → Nat
  | 0, r, _ => r
  | k + 1, r, c => rbit (rsteps k r c) (c / 2 ^ k % 2)
theorem xor_two (a b : Nat) : (a ^^^ b) % 2 = (a % 2 + b % 2) % 2 ∧ (a ^^^ b) / 2 = a / 2 ^^^ b / 2 := by
  constructor
  · have h := @Nat.xor_mod_two_eq_one a b
    rcases Nat.mod_two_eq_zero_or_one a with ha | ha <;> rcases Nat.mod_two_eq_zero_or_one b with hb | hb <;>
      rcases Nat.mod_two_eq_zero_or_one (a ^^^ b) with hc | hc <;> simp [ha, hb, hc] at h ⊢
  · have := @Nat.xor_div_two_pow a b 1
    simpa using this
theorem bstep_xor (R c : Nat) : bstep (R ^^^ c) = rbit R (c % 2) ^^^ (c / 2) := by
  obtain ⟨h1, h2⟩ := xor_two R c
  unfold bstep rbit
  rw [h1, h2]
  rcases Nat.mod_two_eq_zero_or_one R with ha | ha <;> rcases Nat.mod_two_eq_zero_or_one c with hb | hb <;> simp only [ha, hb]
  · simp
  · simp [Nat.xor_assoc, Nat.xor_comm poly]
  · simp [Nat.xor_assoc, Nat.xor_comm poly]
  · simp
theorem steps_xor (r c : Nat) : ∀ k, steps k (r ^^^ c) = rsteps k r c ^^^ (c / 2 ^ k)
  | 0 => by simp [steps, rsteps]
  | k + 1 => by
    simp only [steps, rsteps]
    rw [steps_xor r c k, bstep_xor, Nat.pow_succ, Nat.div_div_eq_div_mul]
theorem steps8 (r : Nat) (b : UInt8) : steps 8 (r ^^^ b.toNat) = rsteps 8 r b.toNat := by
  have hb := b.toNat_lt
  rw [steps_xor, show b.toNat / 2 ^ 8 = 0 from by omega, Nat.xor_zero]
theorem u32_rbit {r b : Nat} (h : U32 r) : U32 (rbit r b) := by
  have h2 : U32 (r / 2) := by unfold U32 at *; omega
  unfold rbit
  split
  · exact u32_xor h2 u32_poly
  · exact h2
theorem u32_rsteps {r c : Nat} (h : U32 r) : ∀ k, U32 (rsteps k r c)
  | 0 => h
  | k + 1 => u32_rbit (u32_rsteps h k)

/-- the register tells what went in: it is one to one -/
theorem bstep_inj {a b : Nat} (ha : U32 a) (hb : U32 b) (h : bstep a = bstep b) : a = b := by
  have key : ∀ x y : Nat, U32 x → U32 y → x / 2 ^^^ poly = y / 2 → False := fun x y hx hy e => by
    have h1 : (x / 2 ^^^ poly) ^^^ (x / 2) = y / 2 ^^^ (x / 2) := by rw [e]
    rw [Nat.xor_comm (x / 2) poly, Nat.xor_assoc, Nat.xor_self, Nat.xor_zero] at h1
    have h2 : y / 2 ^^^ x / 2 < 2 ^ 31 := Nat.xor_lt_two_pow (by unfold U32 at hy; omega) (by unfold U32 at hx; omega)
    rw [← h1] at h2
    revert h2; decide
  unfold bstep at h
  split at h <;> split at h
  · have h1 : a / 2 = b / 2 := by
      have : (a / 2 ^^^ poly) ^^^ poly = (b / 2 ^^^ poly) ^^^ poly := by rw [h]
      simpa [Nat.xor_assoc] using this
    omega
  · exact (key a b ha hb h).elim
  · exact (key b a hb ha h.symm).elim
  · omega
theorem steps_inj {a b : Nat} (ha : U32 a) (hb : U32 b) : ∀ k, steps k a = steps k b → a = b
  | 0, h => h
  | k + 1, h => steps_inj ha hb k (bstep_inj (u32_steps ha k) (u32_steps hb k) h)
theorem xor_right_inj {a b c : Nat} (h : a ^^^ c = b ^^^ c) : a = b := by
  have : (a ^^^ c) ^^^ c = (b ^^^ c) ^^^ c := by rw [h]
  simpa [Nat.xor_assoc] using this
theorem xor_left_inj {a b c : Nat} (h : c ^^^ a = c ^^^ b) : a = b := by
  rw [Nat.xor_comm c a, Nat.xor_comm c b] at h
  exact xor_right_inj h
theorem feed_inj (l : List UInt8) : ∀ {r s : Nat}, U32 r → U32 s → feed r l = feed s l → r = s := by
  induction l with
  | nil => intro r s _ _ h; exact h
  | cons b l ih =>
    intro r s hr hs h
    rw [feed_cons, feed_cons] at h
    have h1 := ih (u32_steps (u32_xor hr (u32_byte b)) 8) (u32_steps (u32_xor hs (u32_byte b)) 8) h
    exact xor_right_inj (steps_inj (u32_xor hr (u32_byte b)) (u32_xor hs (u32_byte b)) 8 h1)
/-- one byte turned turns the CRC -/
theorem crc_turned (l m : List UInt8) (b c : UInt8) (h : crc (l ++ b :: m) = crc (l ++ c :: m)) : b = c := by
  have hu : U32 4294967295 := by unfold U32; omega
  have h1 := u32_feed (l ++ b :: m) hu
  have h2 := u32_feed (l ++ c :: m) hu
  have h3 : feed 4294967295 (l ++ b :: m) = feed 4294967295 (l ++ c :: m) := by unfold crc U32 at *; omega
  rw [feed_append, feed_append, feed_cons, feed_cons] at h3
  have hl := u32_feed l hu
  have h4 := feed_inj m (u32_steps (u32_xor hl (u32_byte b)) 8) (u32_steps (u32_xor hl (u32_byte c)) 8) h3
  have h5 := xor_left_inj (steps_inj (u32_xor hl (u32_byte b)) (u32_xor hl (u32_byte c)) 8 h4)
  exact UInt8.toNat_inj.1 h5
theorem u32_crc (l : List UInt8) : U32 (crc l) := by unfold crc U32; omega
end Go.Proofs.YtlhdbkbgedlmnaaDoor.Crc
