/-
  What was laid is read back: the plain law.
-/
import Derived.Test.YthkfcfkkamffpaaGreatEach
import Derived.Test.YthkfcfkkamffpaaGreatList
import Derived.Test.YthkfcfkkamffpaaGreatRend
import Derived.Test.YthkfcfkkamffpaaGreatWt
import Derived.Test.YthkfcfkkamffpaaGreatLay
import Derived.Test.YthkfcfkkamffpaaGreatRdig
namespace Go.Proofs.YthkfcfkkamffpaaGreat.Crc

/-- a number that fits 32 bits -/
def U32 (n : Nat) : Prop := n < 4294967296
def poly : Nat := 3988292384
/-- one bit goes through the register -/
def bstep (r : Nat) : Nat := if r % 2 = 1 then (r / 2) ^^^ poly else r / 2
def steps : Nat → Nat → Nat
  | 0, r => r
  | k + 1, r => bstep (steps k r)
/-- bytes go through the register -/
def feed (r : Nat) (l : List UInt8) : Nat := l.foldl (fun r b => steps 8 (r ^^^ b.toNat)) r
def crc (l : List UInt8) : Nat := 4294967295 - feed 4294967295 l

theorem u32_xor {a b : Nat} (ha : U32 a) (hb : U32 b) : U32 (a ^^^ b) := by
  unfold U32 at *
  exact Nat.xor_lt_two_pow (n := 32) ha hb
theorem u32_poly : U32 poly := by unfold U32 poly; omega
theorem u32_bstep {r : Nat} (h : U32 r) : U32 (bstep r) := by
  have h2 : U32 (r / 2) := by unfold U32 at *; omega
  unfold bstep
  split
  · exact u32_xor h2 u32_poly
  · exact h2
theorem u32_steps {r : Nat} (h : U32 r) : ∀ k, U32 (steps k r)
  | 0 => h
  | k + 1 => u32_bstep (u32_steps h k)
theorem u32_byte (b : UInt8) : U32 b.toNat := by have := b.toNat_lt; unfold U32; omega
theorem feed_cons (r : Nat) (b : UInt8) (l : List UInt8) : feed r (b :: l) = feed (steps 8 (r ^^^ b.toNat)) l := by unfold feed; rw [List.foldl_cons]
theorem u32_feed (l : List UInt8) : ∀ {r : Nat}, U32 r → U32 (feed r l) := by
  induction l with
  | nil => intro r h; exact h
  | cons b l ih => intro r h; rw [feed_cons]; exact ih (u32_steps (u32_xor h (u32_byte b)) 8)
theorem feed_append (r : Nat) (l m : List UInt8) : feed r (l ++ m) = feed (feed r l) m := by simp [feed]
theorem feed_snoc (r : Nat) (l : List UInt8) (b : UInt8) : feed r (l ++ [b]) = steps 8 (feed r l ^^^ b.toNat) := by simp [feed]

/-- the document's bit: the register and a bit that comes in -/
def rbit (r b : Nat) : Nat := if r % 2 ≠ b then (r / 2) ^^^ poly else r / 2
def rsteps : Nat → Nat → Nat → Nat
  | 0, r, _ => r
  | k + 1, r, c => rbit (rsteps k r c) (c / 2 ^ k % 2)
theorem xor_two (a b : Nat) : (a ^^^ b) % 2 = (a % 2 + b % 2) % 2 ∧ (a ^^^ b) / 2 = a / 2 ^^^ b / 2 := by
  constructor
  · have h := @Nat.xor_mod_two_eq_one a b
    rcases Nat.mod_two_eq_zero_or_one a with ha | ha <;> rcases Nat.mod_two_eq_zero_or_one b with hb | hb <;>
      rcases Nat.mod_two_eq_zero_or_one (a ^^^ b) with hc | hc <;> simp [ha, hb, hc] at h ⊢
  · have := @Nat.xor_div_two_pow a b 1
    simpa using this
theorem bstep_xor (R c : Nat) : bstep (R ^^^ c) = rbit R (c % 2) ^^^ (c / 2) := by
  obtain ⟨h1, h2⟩ := xor_two R c
  unfold bstep rbit
  rw [h1, h2]
  rcases Nat.mod_two_eq_zero_or_one R with ha | ha <;> rcases Nat.mod_two_eq_zero_or_one c with hb | hb <;> simp only [ha, hb]
  · simp
  · simp [Nat.xor_assoc, Nat.xor_comm poly]
  · simp [Nat.xor_assoc, Nat.xor_comm poly]
  · simp
theorem steps_xor (r c : Nat) : ∀ k, steps k (r ^^^ c) = rsteps k r c ^^^ (c / 2 ^ k)
  | 0 => by simp [steps, rsteps]
  | k + 1 => by
    simp only [steps, rsteps]
    rw [steps_xor r c k, bstep_xor, Nat.pow_succ, Nat.div_div_eq_div_mul]
theorem steps8 (r : Nat) (b : UInt8) : steps 8 (r ^^^ b.toNat) = rsteps 8 r b.toNat := by
  have hb := b.toNat_lt
  rw [steps_xor, show b.toNat / 2 ^ 8 = 0 from by omega, Nat.xor_zero]
theorem u32_rbit {r b : Nat} (h : U32 r) : U32 (rbit r b) := by
  have h2 : U32 (r / 2) := by unfold U32 at *; omega
  unfold rbit
  split
  · exact u32_xor h2 u32_poly
  · exact h2
theorem u32_rsteps {r c : Nat} (h : U32 r) : ∀ k, U32 (rsteps k r c)
  | 0 => h
  | k + 1 => u32_rbit (u32_rsteps h k)

/-- the register tells what went in: it is one to one -/
theorem bstep_inj {a b : Nat} (ha : U32 a) (hb : U32 b) (h : bstep a = bstep b) : a = b := by
  have key : ∀ x y : Nat, U32 x → U32 y → x / 2 ^^^ poly = y / 2 → False := fun x y hx hy e => by
    have h1 : (x / 2 ^^^ poly) ^^^ (x / 2) = y / 2 ^^^ (x / 2) := by rw [e]
    rw [Nat.xor_comm (x / 2) poly, Nat.xor_assoc, Nat.xor_self, Nat.xor_zero] at h1
    have h2 : y / 2 ^^^ x / 2 < 2 ^ 31 := Nat.xor_lt_two_pow (by unfold U32 at hy; omega) (by unfold U32 at hx; omega)
    rw [← h1] at h2
    revert h2; decide
  unfold bstep at h
  split at h <;> split at h
  · have h1 : a / 2 = b / 2 := by
      have : (a / 2 ^^^ poly) ^^^ poly = (b / 2 ^^^ poly) ^^^ poly := by rw [h]
      simpa [Nat.xor_assoc] using this
    omega
  · exact (key a b ha hb h).elim
  · exact (key b a hb ha h.symm).elim
  · omega
theorem steps_inj {a b : Nat} (ha : U32 a) (hb : U32 b) : ∀ k, steps k a = steps k b → a = b
  | 0, h => h
  | k + 1, h => steps_inj ha hb k (bstep_inj (u32_steps ha k) (u32_steps hb k) h)
theorem xor_right_inj {a b c : Nat} (h : a ^^^ c = b ^^^ c) : a = b := by
  have : (a ^^^ c) ^^^ c = (b ^^^ c) ^^^ c := by rw [h]
  simpa [Nat.xor_assoc] using this
theorem xor_left_inj {a b c : Nat} (h : c ^^^ a = c ^^^ b) : a = b := by
  rw [Nat.xor_comm c a, Nat.xor_comm c b] at h
  exact xor_right_inj h
theorem feed_inj (l : List UInt8) : ∀ {r s : Nat}, U32 r → U32 s → feed r l = feed s l → r = s := by
  induction l with
  | nil => intro r s _ _ h; exact h
  | cons b l ih =>
    intro r s hr hs h
    rw [feed_cons, feed_cons] at h
    have h1 := ih (u32_steps (u32_xor hr (u32_byte b)) 8) (u32_steps (u32_xor hs (u32_byte b)) 8) h
    exact xor_right_inj (steps_inj (u32_xor hr (u32_byte b)) (u32_xor hs (u32_byte b)) 8 h1)
/-- one byte turned turns the CRC -/
theorem crc_turned (l m : List UInt8) (b c : UInt8) (h : crc (l ++ b :: m) = crc (l ++ c :: m)) : b = c := by
  have hu : U32 4294967295 := by unfold U32; omega
  have h1 := u32_feed (l ++ b :: m) hu
  have h2 := u32_feed (l ++ c :: m) hu
  have h3 : feed 4294967295 (l ++ b :: m) = feed 4294967295 (l ++ c :: m) := by unfold crc U32 at *; omega
  rw [feed_append, feed_append, feed_cons, feed_cons] at h3
  have hl := u32_feed l hu
  have h4 := feed_inj m (u32_steps (u32_xor hl (u32_byte b)) 8) (u32_steps (u32_xor hl (u32_byte c)) 8) h3
  have h5 := xor_left_inj (steps_inj (u32_xor hl (u32_byte b)) (u32_xor hl (u32_byte c)) 8 h4)
  exact UInt8.toNat_inj.1 h5
theorem u32_crc (l : List UInt8) : U32 (crc l) := by unfold crc U32; omega
end Go.Proofs.YthkfcfkkamffpaaGreat.Crc
namespace Go.Proofs.YthkfcfkkamffpaaGreat
open Go.RowKit
set_option linter.unusedVariables false

namespace Pk
def text (l : List UInt8) : List UInt8 := free l.length ++ l
def join (parts : List (List UInt8)) : List UInt8 := free parts.length ++ (parts.map text).flatten
/-- what Split reads -/
def split (s : List UInt8) : List (List UInt8) × Rd := Rd.list ⟨s, 0, 0⟩ 9223372036854775807 fun r => r.text 9223372036854775807
end Pk

theorem Chg.none_of {w w' : World} (h : Below w.heap.size w w') (S : Nat → Prop) : Chg S w w' := Chg.of_below h S

theorem rraw_s (r : Pk.Rd) (n : Int) : (r.raw n).2.s = r.s := by
  unfold Pk.Rd.raw
  split
  · rfl
  · split <;> rfl
theorem rtext_s (r : Pk.Rd) (most : Int) : (r.text most).2.s = r.s := by
  unfold Pk.Rd.text
  have := rfree_s r most.toNat
  split
  · rfl
  · dsimp only
    split
    · exact this
    · split
      · exact this
      · rw [rraw_s]; exact this
end Go.Proofs.YthkfcfkkamffpaaGreat
namespace Go.Proofs.YthkfcfkkamffpaaGreat
open Go.RowKit
set_option linter.unusedVariables false

theorem tk_i32 (n : Nat) (h : n < 256 ^ 4) : wrap32 (n : Int) = tk .i32 n := by
  unfold tk wrap32
  simp [IntKind.wrap, IntKind.bits, IntKind.signed]
  omega
theorem tk_i64 (n : Nat) (h : n < 256 ^ 8) : wrap64 (n : Int) = tk .i64 n := by
  unfold tk wrap64
  simp [IntKind.wrap, IntKind.bits, IntKind.signed]
  omega

end Go.Proofs.YthkfcfkkamffpaaGreat
namespace Go.Proofs.YthkfcfkkamffpaaGreat
open Go.RowKit
set_option linter.unusedVariables false

theorem num_le {k n : Nat} (l : List UInt8) (h : l.length ≤ k) (hn : 256 ^ k = n) : Pk.num l < n := by rw [← hn]; exact num_lt l k h
theorem rtake_lt (r : Pk.Rd) (k : Nat) : (r.take k).1 < 256 ^ k := by
  have hp : 0 < 256 ^ k := Nat.pow_pos (by omega)
  unfold Pk.Rd.take
  split
  · exact hp
  · split
    · exact hp
    · exact num_lt _ _ (by simp; omega)
/-- how many bytes fixed reads: 2 where the kind is none of the first eight -/
def fz (k : Int) : Nat := if k < 0 ∨ 7 < k then 2 else [1, 2, 4, 8, 1, 2, 4, 8].getD k.toNat 0

end Go.Proofs.YthkfcfkkamffpaaGreat
namespace Go.Proofs.YthkfcfkkamffpaaGreat
open Go.RowKit
set_option linter.unusedVariables false

/-- In w, reached from w0, the Writer g holds xs in the slice v; g and its row are new since w0, nothing that was there in w0 has turned. -/
structure Mine (w0 w : World) (g : Nat) (v : Value) (xs : List UInt8) : Prop where
  is : IsW w g v xs
  chg : Chg (fun _ => False) w0 w
  g0 : w0.heap.size ≤ g
  v0 : ∀ k, v.ownBlock = some k → w0.heap.size ≤ k
structure MineR (w0 w : World) (g : Nat) (r : Pk.Rd) : Prop where
  is : IsR w g r
  chg : Chg (fun _ => False) w0 w
  g0 : w0.heap.size ≤ g
theorem Chg.new {S : Nat → Prop} {w0 w w' : World} (h : Chg (fun _ => False) w0 w) (hc : Chg S w w') (hs : ∀ k, S k → w0.heap.size ≤ k) : Chg (fun _ => False) w0 w' :=
  h.andThen hc fun k hk hS => by have := hs k hS; omega
theorem Mine.wrote {w0 w w' : World} {g : Nat} {v : Value} {xs ys : List UInt8} (h : Mine w0 w g v xs) (hw : Wrote w w' g v ys) : ∃ v', Mine w0 w' g v' ys := by
  obtain ⟨v', h1, hc, hv⟩ := hw
  refine ⟨v', h1, h.chg.new hc ?_, h.g0, ?_⟩
  · rintro k (rfl | hk)
    · exact h.g0
    · exact h.v0 k hk
  · intro k hk
    rcases hv k hk with h2 | h2
    · exact h.v0 k h2
    · have := h.chg.size; omega
/-- the Writer g turns, another one, g2, does not; and their rows stay apart -/
theorem Mine.wrote2 {w0 w w' : World} {g g2 : Nat} {v v2 : Value} {xs ys zs : List UInt8} (h : Mine w0 w g v xs) (hw : Wrote w w' g v ys) (h2 : Mine w0 w g2 v2 zs) (hne : g ≠ g2) (hap : ∀ k, v.ownBlock = some k → v2.ownBlock ≠ some k) :
    ∃ v', Mine w0 w' g v' ys ∧ Mine w0 w' g2 v2 zs ∧ ∀ k, v'.ownBlock = some k → v2.ownBlock ≠ some k := by
  obtain ⟨v', h3⟩ := h.wrote hw
  obtain ⟨v'', h1, hc, hv⟩ := hw
  have e : v'' = v' := by
    have a := h1.blk
    have b := h3.is.blk
    unfold Blk at a b
    rw [a] at b
    injection b with b
    injection b with b
    simpa using b
  subst e
  refine ⟨v'', h3, ⟨⟨h2.is.blk.chg hc ?_, own_chg h2.is.own hc ?_⟩, h3.chg, h2.g0, h2.v0⟩, ?_⟩
  · rintro (e | e)
    · exact hne e.symm
    · exact own_blk_ne h.is.own h2.is.blk (by decide) e
  · rintro k hk (e | e)
    · subst e; exact own_blk_ne h2.is.own h.is.blk (by decide) hk
    · exact hap k e hk
  · intro k hk e
    rcases hv k hk with h4 | h4
    · exact hap k h4 e
    · have := (h2.is.own.lt k e).2; omega
theorem Mine.quiet {w0 w : World} {g : Nat} {v : Value} {xs : List UInt8} (h : Mine w0 w g v xs) (n : Nat) : Mine w0 (w.drewN n) g v xs := ⟨⟨h.is.blk.drewN n, h.is.own⟩, h.chg.drewN n, h.g0, h.v0⟩
theorem Mine.below {w0 w w' : World} {g : Nat} {v : Value} {xs : List UInt8} (h : Mine w0 w g v xs) (hc : Chg (fun _ => False) w w') : Mine w0 w' g v xs :=
  ⟨⟨h.is.blk.chg hc (fun h => h), own_chg h.is.own hc (fun _ _ h => h)⟩, h.chg.trans hc, h.g0, h.v0⟩
theorem MineR.red {w0 w w' : World} {g : Nat} {r r' : Pk.Rd} (h : MineR w0 w g r) (hr : Red w w' g r') : MineR w0 w' g r' := ⟨hr.1, h.chg.new hr.2 fun k e => by subst e; exact h.g0, h.g0⟩
theorem MineR.quiet {w0 w : World} {g : Nat} {r : Pk.Rd} (h : MineR w0 w g r) (n : Nat) : MineR w0 (w.drewN n) g r := ⟨h.is.drewN n, h.chg.drewN n, h.g0⟩
theorem MineR.below {w0 w w' : World} {g : Nat} {r : Pk.Rd} (h : MineR w0 w g r) (hc : Chg (fun _ => False) w w') : MineR w0 w' g r := ⟨h.is.chg hc (fun h => h), h.chg.trans hc, h.g0⟩
theorem Mine.reads {w0 w w' : World} {g gr : Nat} {v : Value} {xs : List UInt8} {r r' : Pk.Rd} (h : Mine w0 w g v xs) (hr : MineR w0 w gr r) (hd : Red w w' gr r') : Mine w0 w' g v xs ∧ MineR w0 w' gr r' := by
  have hne : g ≠ gr := h.is.blk.ne_ hr.is.blk (by decide)
  exact ⟨⟨⟨h.is.blk.chg hd.2 hne, own_chg h.is.own hd.2 (fun k hk e => by subst e; exact own_blk_ne h.is.own hr.is.blk (by decide) hk)⟩, (hr.red hd).chg, h.g0, h.v0⟩, hr.red hd⟩
theorem MineR.writes {w0 w w' : World} {g gr : Nat} {v : Value} {xs ys : List UInt8} {r : Pk.Rd} (hr : MineR w0 w gr r) (h : Mine w0 w g v xs) (hw : Wrote w w' g v ys) : ∃ v', Mine w0 w' g v' ys ∧ MineR w0 w' gr r := by
  obtain ⟨v', h3⟩ := h.wrote hw
  obtain ⟨v'', h1, hc, hv⟩ := hw
  refine ⟨v', h3, hr.is.chg hc ?_, h3.chg, hr.g0⟩
  rintro (e | e)
  · exact h.is.blk.ne_ hr.is.blk (by decide) e.symm
  · exact own_blk_ne h.is.own hr.is.blk (by decide) e
end Go.Proofs.YthkfcfkkamffpaaGreat
namespace Go.Proofs.YthkfcfkkamffpaaGreat
open Go.RowKit
set_option linter.unusedVariables false

/-- what lives reads -/
abbrev lb : List UInt8 := [1, 2, 172, 2, 1, 2, 97, 98, 120]
theorem lb1 : (Pk.Rd.mk lb 0 0).take 2 = (258, ⟨lb, 2, 0⟩) := rfl
theorem lb2 : (Pk.Rd.mk lb 2 0).free 300 = (300, ⟨lb, 4, 0⟩) := by
  rw [Pk.Rd.free_good (v := 300) (k := 2) rfl (by decide) (Nat.le_refl _)]
theorem lb3 : (Pk.Rd.mk lb 4 0).free 18446744073709551615 = (1, ⟨lb, 5, 0⟩) := by
  rw [Pk.Rd.free_good (v := 1) (k := 1) rfl (by decide) (Nat.le_of_ble_eq_true rfl)]
theorem lb4 : (Pk.Rd.mk lb 5 0).text 2 = ([97, 98], ⟨lb, 8, 0⟩) := rfl
theorem free_callsI (g : Nat) (ni : Int) (n : Nat) (v : Value) (xs : List UInt8) (w : World) (hni : ni = n) (h : IsW w g v xs) (hn : U64 n) (hroom : xs.length + (Pk.free n).length ≤ 140737488355328) :
    Calls Tryz.prog 119 #[.pointer (some ⟨g, 0, none⟩), .int .u64 ni] w fun e w' => e = .returned (.tuple #[]) ∧ Wrote w w' g v (xs ++ Pk.free n) := by
  subst hni; exact free_calls g n v xs w h hn hroom
theorem free_300 : Pk.free 300 = [172, 2] := by rw [Pk.free_big (by omega), Pk.free_small (by omega)]; rfl
theorem free_1 : Pk.free 1 = [1] := by rw [Pk.free_small (by omega)]; rfl
theorem free_2 : Pk.free 2 = [2] := by rw [Pk.free_small (by omega)]; rfl
theorem free_0 : Pk.free 0 = [0] := by rw [Pk.free_small (by omega)]; rfl

theorem join_lit : Pk.join [[97], []] = [2, 1, 97, 0] := by
  simp [Pk.join, Pk.text, free_0, free_1, free_2]
theorem split_lit1 : (Pk.split [2, 1, 97, 0]).1 = [[97], []] := by decide +kernel
theorem split_lit2 : (Pk.split [2, 1, 97, 0]).2.f = 0 := by decide +kernel
theorem split_lit3 : (Pk.split [2, 1, 97, 0]).2.left = 0 := by decide +kernel
end Go.Proofs.YthkfcfkkamffpaaGreat
namespace Go.Proofs.YthkfcfkkamffpaaGreat
open Go.RowKit
set_option linter.unusedVariables false

/-- is a the beginning of b? -/
def pre (a b : List UInt8) : Bool := decide (a.length ≤ b.length) && (b.take a.length == a)

end Go.Proofs.YthkfcfkkamffpaaGreat
namespace Go.Proofs.YthkfcfkkamffpaaGreat
open Go.RowKit
set_option linter.unusedVariables false

theorem Mine.keep {w0 w w' : World} {g g2 : Nat} {v v2 : Value} {xs ys zs : List UInt8} (h2 : Mine w0 w g2 v2 zs) (h : Mine w0 w g v xs) (hw : Wrote w w' g v ys) (hne : g ≠ g2) (hap : ∀ k, v.ownBlock = some k → v2.ownBlock ≠ some k) : Mine w0 w' g2 v2 zs := by
  obtain ⟨v', h3, h4, _⟩ := h.wrote2 hw h2 hne hap
  exact h4
theorem own_none : ∀ k, (Value.slice none 0 0).ownBlock = some k → False := by intro k h; simp [Value.ownBlock] at h

namespace Pk
theorem free_inj {a b : Nat} {r s : List UInt8} (ha : a < 18446744073709551616) (hb : b < 18446744073709551616) (h : free a ++ r = free b ++ s) : a = b ∧ r = s := by
  have h1 := get_free ha r
  have h2 := get_free hb s
  rw [h, h2] at h1
  injection h1 with h1 h3
  subst h1
  exact ⟨rfl, List.append_cancel_left h⟩
theorem text_inj {x y r s : List UInt8} (hx : x.length < 18446744073709551616) (hy : y.length < 18446744073709551616) (h : text x ++ r = text y ++ s) : x = y ∧ r = s := by
  unfold text at h
  rw [List.append_assoc, List.append_assoc] at h
  obtain ⟨hl, h1⟩ := free_inj hx hy h
  exact List.append_inj h1 hl
theorem texts_inj : ∀ (p q : List (List UInt8)) (r s : List UInt8), p.length = q.length → (∀ x ∈ p, x.length < 18446744073709551616) → (∀ x ∈ q, x.length < 18446744073709551616) →
    (p.map text).flatten ++ r = (q.map text).flatten ++ s → p = q ∧ r = s := by
  intro p
  induction p with
  | nil => intro q r s hl _ _ h; cases q with
    | nil => exact ⟨rfl, by simpa using h⟩
    | cons y q => simp at hl
  | cons x p ih =>
    intro q r s hl hp hq h
    cases q with
    | nil => simp at hl
    | cons y q =>
      simp only [List.map_cons, List.flatten_cons, List.append_assoc] at h
      obtain ⟨rfl, h1⟩ := text_inj (hp x (by simp)) (hq y (by simp)) h
      obtain ⟨rfl, h2⟩ := ih q r s (by simpa using hl) (fun z hz => hp z (by simp [hz])) (fun z hz => hq z (by simp [hz])) h1
      exact ⟨rfl, h2⟩
theorem join_inj {p q : List (List UInt8)} {r s : List UInt8} (hp : p.length < 18446744073709551616) (hq : q.length < 18446744073709551616) (h1 : ∀ x ∈ p, x.length < 18446744073709551616) (h2 : ∀ x ∈ q, x.length < 18446744073709551616)
    (h : join p ++ r = join q ++ s) : p = q ∧ r = s := by
  unfold join at h
  rw [List.append_assoc, List.append_assoc] at h
  obtain ⟨hl, h3⟩ := free_inj hp hq h
  exact texts_inj p q r s hl h1 h2 h3
end Pk
theorem pre_iff (a b : List UInt8) : pre a b = true ↔ ∃ r, a ++ r = b := by
  unfold pre
  simp only [Bool.and_eq_true, decide_eq_true_eq, beq_iff_eq]
  constructor
  · rintro ⟨_, h⟩
    refine ⟨b.drop a.length, ?_⟩
    have := List.take_append_drop a.length b
    rw [h] at this
    exact this
  · rintro ⟨r, rfl⟩
    simp
theorem pre_of {a b : List UInt8} {β : Bool} (h1 : β = true → a = b) (h2 : β = false → ∀ r, a ++ r ≠ b) : pre a b = β := by
  cases β with
  | true => rw [pre_iff]; exact ⟨[], by rw [h1 rfl]; simp⟩
  | false =>
    rw [Bool.eq_false_iff]
    intro h
    obtain ⟨r, hr⟩ := (pre_iff a b).1 h
    exact h2 rfl r hr
theorem flat_le {p : List (List UInt8)} {x : List UInt8} (h : x ∈ p) : x.length ≤ p.flatten.length := by
  induction p with
  | nil => cases h
  | cons y p ih =>
    simp only [List.flatten_cons, List.length_append]
    cases List.mem_cons.1 h with
    | inl e => subst e; omega
    | inr e => have := ih e; omega
theorem free_len (n : Nat) (h : n ≤ 140737488355328) : (Pk.free n).length ≤ 10 := Pk.free_length_ten (by omega)
theorem texts_len (p : List (List UInt8)) (h : p.flatten.length ≤ 140737488355328) : (p.map Pk.text).flatten.length ≤ p.flatten.length + 10 * p.length := by
  induction p with
  | nil => simp
  | cons x p ih =>
    simp only [List.flatten_cons, List.length_append, List.map_cons, List.length_cons] at h ⊢
    have h1 := ih (by omega)
    have h2 := free_len x.length (by omega)
    unfold Pk.text at h1 ⊢
    rw [List.length_append]
    omega
theorem join_len (p : List (List UInt8)) (h : p.length + p.flatten.length ≤ 4194304) : (Pk.join p).length ≤ 140737488355328 := by
  have h1 := texts_len p (by omega)
  have h2 := free_len p.length (by omega)
  unfold Pk.join
  rw [List.length_append]
  omega

end Go.Proofs.YthkfcfkkamffpaaGreat
namespace Go.Proofs.YthkfcfkkamffpaaGreat
open Go.RowKit
set_option linter.unusedVariables false

end Go.Proofs.YthkfcfkkamffpaaGreat
namespace Go.Proofs.YthkfcfkkamffpaaGreat
open Go.RowKit
set_option linter.unusedVariables false

structure St where
  kind : Int
  n : Nat
  i : Int
  s : List UInt8
  A : Option Addr
  an : Nat
  ac : Nat
  parts : List (List UInt8)
  B : Option Addr
  bn : Nat
  bc : Nat
  ns : List Nat
  width : Int
  most : Nat
  bound : Int
/-- numbers as the cells of a list -/
def u64s (l : List Nat) : List Value := l.map fun n : Nat => Value.int .u64 (n : Int)
def St.cells (x : St) : Array Value := #[.int .i64 x.kind, .int .u64 x.n, .int .i64 x.i, S x.s, .slice x.A x.an x.ac, .slice x.B x.bn x.bc, .int .i64 x.width, .int .u64 x.most, .int .i64 x.bound]
structure St.Ok (x : St) (w : World) : Prop where
  n : U64 x.n
  i : I64 x.i
  kind : I64 x.kind
  width : I64 x.width
  most : U64 x.most
  bound : I64 x.bound
  A : Lst w x.A x.an (strs x.parts)
  B : Lst w x.B x.bn (u64s x.ns)
  ns : ∀ n ∈ x.ns, U64 n
  room : x.s.length + (x.an + x.parts.flatten.length) + x.bn ≤ 4194304
theorem St.Ok.pl {x : St} {w : World} (h : x.Ok w) : x.parts.length = x.an := by have := h.A.1; simpa [strs] using this
theorem St.Ok.nl {x : St} {w : World} (h : x.Ok w) : x.ns.length = x.bn := by have := h.B.1; simpa [u64s] using this
/-- neither of the Step's lists lies in block g or in the block of v -/
structure St.Far (x : St) (g : Nat) (v : Value) : Prop where
  A : 0 < x.an → ∀ ad, x.A = some ad → ad.block ≠ g ∧ v.ownBlock ≠ some ad.block
  B : 0 < x.bn → ∀ ad, x.B = some ad → ad.block ≠ g ∧ v.ownBlock ≠ some ad.block

theorem IsW.alloc {w : World} {g : Nat} {v : Value} {xs : List UInt8} (h : IsW w g v xs) (o : Obj) : IsW (w.alloc o) g v xs := ⟨h.blk.alloc o, h.own.alloc o⟩
theorem IsW.chg {w w' : World} {g : Nat} {v : Value} {xs : List UInt8} (h : IsW w g v xs) (hc : Chg (fun _ => False) w w') : IsW w' g v xs := ⟨h.blk.chg hc (fun h => h), own_chg h.own hc (fun _ _ h => h)⟩
theorem Lst.alloc {w : World} {A : Option Addr} {n : Nat} {xs : List Value} (h : Lst w A n xs) (o : Obj) : Lst (w.alloc o) A n xs := h.chg ((Chg.refl (fun _ => False) w).alloc o) (fun _ _ _ h => h)
theorem Wrote.of_alloc {w w' : World} {g : Nat} {v : Value} {ys : List UInt8} {o : Obj} (h : Wrote (w.alloc o) w' g v ys) : Wrote w w' g v ys := by
  obtain ⟨v', h1, c1, o1⟩ := h
  refine ⟨v', h1, ((Chg.refl _ w).alloc o).trans c1, fun k hk => ?_⟩
  rcases o1 k hk with h | h
  · exact .inl h
  · right; simp at h; omega
theorem Wrote.of_chg {w w1 w' : World} {g : Nat} {v : Value} {ys : List UInt8} (h : Wrote w1 w' g v ys) (hc : Chg (fun _ => False) w w1) : Wrote w w' g v ys := by
  obtain ⟨v', h1, c1, o1⟩ := h
  refine ⟨v', h1, (hc.mono (fun _ _ h => h.elim)).trans c1, fun k hk => ?_⟩
  rcases o1 k hk with h | h
  · exact .inl h
  · right; have := hc.size; omega
theorem Wrote.cast {w w' : World} {g : Nat} {v : Value} {ys zs : List UInt8} (h : Wrote w w' g v ys) (e : ys = zs) : Wrote w w' g v zs := e ▸ h

namespace Pk
theorem be_add (k : Nat) : ∀ (x m : Int), be k (x + m * 256 ^ k) = be k x := by
  induction k with
  | zero => intro x m; rfl
  | succ k ih =>
    intro x m
    have hp : (0 : Int) < 256 ^ k := Int.pow_pos (by omega)
    have e1 : x + m * 256 ^ (k + 1) = x + (m * 256) * 256 ^ k := by rw [Int.pow_succ, Int.mul_comm (256 ^ k) 256, ← Int.mul_assoc]
    simp only [be]
    rw [e1, ih, Int.add_mul_ediv_right _ _ (by omega)]
    congr 3
    omega
theorem be_cong {k : Nat} {x y : Int} (m : Int) (h : y = x + m * 256 ^ k) : be k y = be k x := by rw [h, be_add]
end Pk
theorem be_uint8 (n : Nat) : Pk.be 1 ((n : Int) % 256) = Pk.be 1 n := Pk.be_cong (-((n : Int) / 256)) (by simp; omega)
theorem be_uint16 (n : Nat) : Pk.be 2 (IntKind.u16.wrap n) = Pk.be 2 n := Pk.be_cong (-((n : Int) / 65536)) (by simp [IntKind.wrap, IntKind.bits, IntKind.signed]; omega)
theorem be_shade (n : Nat) : Pk.be 2 (IntKind.u16.wrap n) = Pk.be 2 n := be_uint16 n
theorem be_uint32 (n : Nat) : Pk.be 4 ((n : Int) % 4294967296) = Pk.be 4 n := Pk.be_cong (-((n : Int) / 4294967296)) (by simp; omega)
theorem be_int8 (n : Nat) : Pk.be 1 (IntKind.i8.wrap n) = Pk.be 1 n := Pk.be_cong (-(((n : Int) + 128) / 256)) (by simp [IntKind.wrap, IntKind.bits, IntKind.signed]; omega)
theorem be_int16 (n : Nat) : Pk.be 2 (IntKind.i16.wrap n) = Pk.be 2 n := Pk.be_cong (-(((n : Int) + 32768) / 65536)) (by simp [IntKind.wrap, IntKind.bits, IntKind.signed]; omega)
theorem be_int32 (n : Nat) : Pk.be 4 (wrap32 n) = Pk.be 4 n := Pk.be_cong (-(((n : Int) + 2147483648) / 4294967296)) (by simp [wrap32]; omega)
theorem be_int64 (n : Nat) : Pk.be 8 (wrap64 n) = Pk.be 8 n := Pk.be_cong (-(((n : Int) + 9223372036854775808) / 18446744073709551616)) (by simp [wrap64]; omega)
end Go.Proofs.YthkfcfkkamffpaaGreat
namespace Go.Proofs.YthkfcfkkamffpaaGreat
set_option linter.unusedVariables false

/-- from r to r' just the bytes b were read, where r' has no fault -/
structure Fits (r r' : Pk.Rd) (b : List UInt8) : Prop where
  s : r'.s = r.s
  pos : r.pos ≤ r'.pos
  le : r'.pos ≤ r.s.length
  ok : r'.f = 0 → r.s.take r'.pos = r.s.take r.pos ++ b
theorem Fits.trans {r r1 r2 : Pk.Rd} {b1 b2 : List UInt8} (h1 : Fits r r1 b1) (h2 : Fits r1 r2 b2) (hf : r2.f = 0 → r1.f = 0) : Fits r r2 (b1 ++ b2) :=
  ⟨h2.s.trans h1.s, Nat.le_trans h1.pos h2.pos, by rw [← h1.s]; exact h2.le, fun h => by
    have a := h2.ok h
    rw [h1.s, h1.ok (hf h)] at a
    rw [a, List.append_assoc]⟩
theorem Fits.cast {r r' : Pk.Rd} {b c : List UInt8} (h : Fits r r' b) (e : r'.f = 0 → b = c) : Fits r r' c := ⟨h.s, h.pos, h.le, fun hf => by rw [h.ok hf, e hf]⟩
theorem Fits.fault {r r' : Pk.Rd} {b : List UInt8} (hs : r'.s = r.s) (hp : r.pos ≤ r'.pos) (hle : r'.pos ≤ r.s.length) (hf : r'.f ≠ 0) : Fits r r' b := ⟨hs, hp, hle, fun h => absurd h hf⟩
theorem Fits.refl {r : Pk.Rd} (hle : r.pos ≤ r.s.length) : Fits r r [] := ⟨rfl, Nat.le_refl _, hle, fun _ => by simp⟩
theorem fits_step {r : Pk.Rd} {k : Nat} {f : Nat} (hk : r.pos + k ≤ r.s.length) : Fits r ⟨r.s, r.pos + k, f⟩ ((r.s.drop r.pos).take k) :=
  ⟨rfl, by simp, hk, fun _ => by rw [List.take_add]⟩
theorem get_good {l : List UInt8} {v k : Nat} (h : Pk.get l 0 0 = .good v k) : k ≤ l.length ∧ l.take k = Pk.free v := by
  obtain ⟨m, hv, _, hk, ht, _⟩ := Pk.get_sound l 0 0 v k (by omega) h
  simp at hv hk ht
  subst hv
  exact ⟨hk, ht⟩
theorem get_bad {l : List UInt8} : ∀ {i n c : Nat}, Pk.get l i n = .bad c → c ≠ 0 := by
  induction l with
  | nil => intro i n c h; simp [Pk.get] at h; omega
  | cons b r ih =>
    intro i n c h
    simp only [Pk.get] at h
    split at h
    · injection h with h; omega
    · split at h
      · cases h
      · exact ih h
theorem fits_free (r : Pk.Rd) (most : Nat) (hf : r.f = 0) (hle : r.pos ≤ r.s.length) : Fits r (r.free most).2 (Pk.free (r.free most).1) := by
  cases hg : Pk.get (r.s.drop r.pos) 0 0 with
  | bad c => rw [Pk.Rd.free_bad most hf hg]; exact Fits.fault rfl (Nat.le_refl _) hle (get_bad hg)
  | good v k =>
    obtain ⟨hk, ht⟩ := get_good hg
    rw [List.length_drop] at hk
    by_cases hm : most < v
    · rw [Pk.Rd.free_most hf hg hm]; exact Fits.fault rfl (Nat.le_refl _) hle (by simp)
    · rw [Pk.Rd.free_good hf hg (by omega)]
      rw [← ht]
      exact fits_step (by omega)
theorem fits_raw (r : Pk.Rd) (n : Int) (hf : r.f = 0) (hle : r.pos ≤ r.s.length) : Fits r (r.raw n).2 (r.raw n).1 := by
  unfold Pk.Rd.raw
  split
  · exact Fits.refl hle
  · rename_i h
    have hn : 0 < n := by by_cases h1 : n ≤ 0; exact absurd (.inr h1) h; omega
    split
    · exact Fits.fault rfl (Nat.le_refl _) hle (by simp)
    · rename_i hl
      unfold Pk.Rd.left at hl
      exact fits_step (by omega)
theorem num_acc (l : List UInt8) : ∀ x : Nat, l.foldl (fun x b => x * 256 + b.toNat) x = x * 256 ^ l.length + Pk.num l := by
  induction l with
  | nil => intro x; simp [Pk.num]
  | cons b l ih =>
    intro x
    simp only [Pk.num, List.foldl_cons, List.length_cons]
    rw [ih (x * 256 + b.toNat), ih (0 * 256 + b.toNat), Nat.pow_succ, Nat.add_mul, Nat.zero_mul, Nat.zero_add, Nat.mul_comm (256 ^ l.length) 256, ← Nat.mul_assoc, Nat.add_assoc]
theorem num_cons (b : UInt8) (l : List UInt8) : Pk.num (b :: l) = b.toNat * 256 ^ l.length + Pk.num l := by
  have := num_acc l (0 * 256 + b.toNat)
  simp only [Pk.num, List.foldl_cons]
  rw [this]; simp [Pk.num]
theorem be_num (l : List UInt8) : ∀ n : Nat, l.length = n → Pk.be n (Pk.num l) = l := by
  induction l with
  | nil => intro n h; simp at h; subst h; rfl
  | cons b l ih =>
    intro n h
    simp at h
    subst h
    have hlt := num_lt l l.length (Nat.le_refl _)
    have hb := b.toNat_lt
    have hp : 0 < 256 ^ l.length := Nat.pow_pos (by omega)
    have e1 : ((Pk.num (b :: l) : Nat) : Int) / 256 ^ l.length % 256 = (b.toNat : Int) := by
      have h1 : Pk.num (b :: l) / 256 ^ l.length = b.toNat := by
        rw [num_cons, Nat.mul_comm, Nat.mul_add_div hp, Nat.div_eq_of_lt hlt]; rfl
      have h2 : ((Pk.num (b :: l) : Nat) : Int) / 256 ^ l.length = ((Pk.num (b :: l) / 256 ^ l.length : Nat) : Int) := by simp
      rw [h2, h1]; omega
    have e2 : Pk.be l.length (Pk.num (b :: l)) = Pk.be l.length (Pk.num l) := Pk.be_cong (b.toNat : Int) (by
      rw [num_cons, Int.natCast_add, Int.natCast_mul, Int.natCast_pow, Int.add_comm]; rfl)
    simp only [Pk.be]
    rw [e1, e2, ih _ rfl]
    simp
theorem fits_take (r : Pk.Rd) (n : Nat) (hf : r.f = 0) (hle : r.pos ≤ r.s.length) : Fits r (r.take n).2 (Pk.be n (r.take n).1) := by
  unfold Pk.Rd.take
  rw [if_neg (by omega)]
  split
  · exact Fits.fault rfl (Nat.le_refl _) hle (by simp)
  · rename_i hl
    unfold Pk.Rd.left at hl
    dsimp only
    rw [be_num _ n (by simp; omega)]
    exact fits_step (by omega)
theorem zig_unzig (n : Nat) : Pk.zig (unzig n) = n := by
  unfold Pk.zig unzig
  split <;> split <;> omega
theorem raw_full {r : Pk.Rd} {n : Nat} (hf : r.f = 0) (hn : n ≤ r.left) : (r.raw n).1.length = n ∧ (r.raw n).2.f = 0 := by
  unfold Pk.Rd.raw
  unfold Pk.Rd.left at hn
  split
  · rename_i h
    have : n = 0 := by rcases h with h | h; exact absurd hf h; omega
    subst this
    exact ⟨rfl, hf⟩
  · rw [if_neg (by unfold Pk.Rd.left; omega)]
    exact ⟨by simp; omega, hf⟩
theorem fits_text (r : Pk.Rd) (most : Int) (hf : r.f = 0) (hle : r.pos ≤ r.s.length) : Fits r (r.text most).2 (Pk.text (r.text most).1) := by
  have h1 := fits_free r most.toNat hf hle
  by_cases hf2 : (r.free most.toNat).2.f = 0
  · by_cases hl : (r.free most.toNat).1 ≤ (r.free most.toNat).2.left
    · rw [text_good hf hf2 hl]
      obtain ⟨e1, e2⟩ := raw_full hf2 hl
      have h2 := fits_raw (r.free most.toNat).2 (r.free most.toNat).1 hf2 (by rw [h1.s]; exact h1.le)
      refine (h1.trans h2 (fun _ => hf2)).cast fun _ => ?_
      unfold Pk.text
      rw [e1]
    · rw [text_ends hf hf2 (by omega)]
      exact Fits.fault h1.s (Nat.le_refl _) hle (by simp)
  · rw [text_bad hf hf2]
    exact Fits.fault h1.s h1.pos h1.le hf2
theorem loop_fits {α : Type} (step : Pk.Rd → α × Pk.Rd) (enc : α → List UInt8) (hs : ∀ r : Pk.Rd, r.f = 0 → r.pos ≤ r.s.length → Fits r (step r).2 (enc (step r).1)) :
    ∀ (n : Nat) (acc : List α) (r : Pk.Rd), r.f = 0 → r.pos ≤ r.s.length → ∃ l2 : List α, Fits r (Pk.Rd.loop step n acc r).2 (l2.map enc).flatten ∧ ((Pk.Rd.loop step n acc r).2.f = 0 → (Pk.Rd.loop step n acc r).1 = acc ++ l2 ∧ l2.length = n) := by
  intro n
  induction n with
  | zero => intro acc r hf hle; exact ⟨[], Fits.refl hle, fun _ => by simp [Pk.Rd.loop]⟩
  | succ n ih =>
    intro acc r hf hle
    have h1 := hs r hf hle
    by_cases hf2 : (step r).2.f = 0
    · obtain ⟨l2, h2, h3⟩ := ih (acc ++ [(step r).1]) (step r).2 hf2 (by rw [h1.s]; exact h1.le)
      rw [Pk.Rd.loop_good hf2]
      refine ⟨(step r).1 :: l2, (h1.trans h2 (fun _ => hf2)).cast (fun _ => by simp), fun h => ?_⟩
      obtain ⟨e1, e2⟩ := h3 h
      exact ⟨by rw [e1]; simp, by simp [e2]⟩
    · rw [Pk.Rd.loop_bad hf2]
      exact ⟨[], Fits.fault h1.s h1.pos h1.le hf2, fun h => absurd h hf2⟩
theorem fits_list {α : Type} (step : Pk.Rd → α × Pk.Rd) (enc : α → List UInt8) (hs : ∀ r : Pk.Rd, r.f = 0 → r.pos ≤ r.s.length → Fits r (step r).2 (enc (step r).1)) (r : Pk.Rd) (most : Int) (hf : r.f = 0) (hle : r.pos ≤ r.s.length) :
    Fits r (r.list most step).2 (Pk.free (r.list most step).1.length ++ ((r.list most step).1.map enc).flatten) := by
  have h1 := fits_free r most.toNat hf hle
  unfold Pk.Rd.list
  by_cases hf2 : (r.free most.toNat).2.f = 0
  · by_cases hl : (r.free most.toNat).1 ≤ (r.free most.toNat).2.left
    · rw [heads_of hf hf2 hl]
      obtain ⟨l2, h2, h3⟩ := loop_fits step enc hs (r.free most.toNat).1 [] (r.free most.toNat).2 hf2 (by rw [h1.s]; exact h1.le)
      refine (h1.trans h2 (fun _ => hf2)).cast fun h => ?_
      obtain ⟨e1, e2⟩ := h3 h
      rw [e1]; simp [e2]
    · rw [heads_most hf hf2 (by omega)]
      exact Fits.fault h1.s (Nat.le_refl _) hle (by simp [Pk.Rd.loop])
  · rw [heads_bad hf hf2]
    exact Fits.fault h1.s h1.pos h1.le hf2
end Go.Proofs.YthkfcfkkamffpaaGreat
namespace Go.Proofs.YthkfcfkkamffpaaGreat
set_option linter.unusedVariables false

/-- the Reader r, without a fault, stands in front of the bytes b, and t follows -/
structure At (r : Pk.Rd) (b t : List UInt8) : Prop where
  f : r.f = 0
  le : r.pos ≤ r.s.length
  eq : r.s.drop r.pos = b ++ t
theorem At.next {r : Pk.Rd} {b t : List UInt8} (h : At r b t) : At ⟨r.s, r.pos + b.length, 0⟩ [] t := by
  have hl := congrArg List.length h.eq
  rw [List.length_drop, List.length_append] at hl
  have := h.le
  refine ⟨rfl, by simp; omega, ?_⟩
  show r.s.drop (r.pos + b.length) = [] ++ t
  rw [← List.drop_drop, h.eq]; simp
theorem At.split {r : Pk.Rd} {a b t : List UInt8} (h : At r (a ++ b) t) : At r a (b ++ t) := ⟨h.f, h.le, by rw [h.eq, List.append_assoc]⟩
theorem At.then {s : List UInt8} {p : Nat} {a t : List UInt8} (h : At ⟨s, p, 0⟩ [] (a ++ t)) : At ⟨s, p, 0⟩ a t := ⟨h.f, h.le, by simpa using h.eq⟩
theorem At.room {r : Pk.Rd} {b t : List UInt8} (h : At r b t) : r.left = b.length + t.length := by
  have := congrArg List.length h.eq
  rw [List.length_drop, List.length_append] at this
  exact this
theorem At.free {r : Pk.Rd} {n most : Nat} {t : List UInt8} (h : At r (Pk.free n) t) (hn : n < 18446744073709551616) (hm : n ≤ most) : r.free most = (n, ⟨r.s, r.pos + (Pk.free n).length, 0⟩) := by
  have hg : Pk.get (r.s.drop r.pos) 0 0 = .good n (Pk.free n).length := by rw [h.eq]; exact Pk.get_free hn t
  rw [Pk.Rd.free_good h.f hg hm, h.f]
theorem At.raw {r : Pk.Rd} {b t : List UInt8} (h : At r b t) : r.raw b.length = (b, ⟨r.s, r.pos + b.length, 0⟩) := by
  have hr := h.room
  unfold Pk.Rd.raw
  by_cases hb : b.length = 0
  · have hn := List.length_eq_zero_iff.1 hb
    subst hn
    rw [if_pos (.inr (by simp))]
    have := h.f
    obtain ⟨s, p, f⟩ := r
    simp at this ⊢
    exact this
  · rw [if_neg (by rintro (e | e); exact e h.f; omega), if_neg (by omega)]
    simp [h.eq, h.f]
theorem At.text {r : Pk.Rd} {l t : List UInt8} {most : Int} (h : At r (Pk.text l) t) (hl : l.length < 18446744073709551616) (hm : (l.length : Int) ≤ most) : r.text most = (l, ⟨r.s, r.pos + (Pk.text l).length, 0⟩) := by
  unfold Pk.text at h
  have h1 := h.split
  have hf := h1.free (most := most.toNat) hl (by omega)
  have h2 := h1.next.then
  have hroom := h2.room
  rw [text_good h.f (by rw [hf]) (by rw [hf]; dsimp only; omega), hf]
  dsimp only
  rw [h2.raw]
  simp [Pk.text, Nat.add_assoc]
theorem num_be (n : Nat) : ∀ x : Nat, Pk.num (Pk.be n x) = x % 256 ^ n := by
  induction n with
  | zero => intro x; simp [Pk.be, Pk.num, Nat.mod_one]
  | succ n ih =>
    intro x
    simp only [Pk.be]
    have e : (((x : Int) / 256 ^ n) % 256).toNat = x / 256 ^ n % 256 := by
      have h2 : (x : Int) / 256 ^ n = ((x / 256 ^ n : Nat) : Int) := by simp
      rw [h2]; omega
    rw [e, num_cons, Pk.be_length, ih]
    have hb : (UInt8.ofNat (x / 256 ^ n % 256)).toNat = x / 256 ^ n % 256 := by simp
    rw [hb, Nat.pow_succ, Nat.mod_mul]
    rw [Nat.mul_comm, Nat.add_comm]
theorem At.take {r : Pk.Rd} {n : Nat} {x : Nat} {t : List UInt8} (h : At r (Pk.be n x) t) : r.take n = (x % 256 ^ n, ⟨r.s, r.pos + n, 0⟩) := by
  have hr := h.room
  rw [Pk.be_length] at hr
  unfold Pk.Rd.take
  rw [if_neg (by have := h.f; omega), if_neg (by omega), h.eq]
  have : (Pk.be n x ++ t).take n = Pk.be n x := by rw [List.take_append_of_le_length (by rw [Pk.be_length]; omega), List.take_of_length_le (by rw [Pk.be_length]; omega)]
  rw [this, num_be, h.f]
theorem At.list {α : Type} (step : Pk.Rd → α × Pk.Rd) (enc : α → List UInt8) (P : α → Prop) (hs : ∀ (x : α) (r : Pk.Rd) (t : List UInt8), P x → At r (enc x) t → step r = (x, ⟨r.s, r.pos + (enc x).length, 0⟩)) :
    ∀ (l : List α) (acc : List α) (r : Pk.Rd) (t : List UInt8), (∀ x ∈ l, P x) → At r ((l.map enc).flatten) t → Pk.Rd.loop step l.length acc r = (acc ++ l, ⟨r.s, r.pos + ((l.map enc).flatten).length, 0⟩) := by
  intro l
  induction l with
  | nil =>
    intro acc r t _ h
    have := h.f
    obtain ⟨s, p, f⟩ := r
    simp at this
    subst this
    simp [Pk.Rd.loop]
  | cons x l ih =>
    intro acc r t hP h
    simp only [List.map_cons, List.flatten_cons] at h ⊢
    have h1 := hs x r _ (hP x (by simp)) h.split
    have h2 := h.split.next.then
    rw [List.length_cons, Pk.Rd.loop_good (by rw [h1]), h1]
    dsimp only
    rw [ih _ _ _ (fun y hy => hP y (by simp [hy])) h2]
    simp [Nat.add_assoc]
theorem At.lists {α : Type} (step : Pk.Rd → α × Pk.Rd) (enc : α → List UInt8) (P : α → Prop) (hs : ∀ (x : α) (r : Pk.Rd) (t : List UInt8), P x → At r (enc x) t → step r = (x, ⟨r.s, r.pos + (enc x).length, 0⟩)) (hpos : ∀ x, 0 < (enc x).length)
    (l : List α) (r : Pk.Rd) (t : List UInt8) (most : Int) (hP : ∀ x ∈ l, P x) (hl : l.length < 18446744073709551616) (hm : (l.length : Int) ≤ most) (h : At r (Pk.free l.length ++ (l.map enc).flatten) t) :
    r.list most step = (l, ⟨r.s, r.pos + (Pk.free l.length ++ (l.map enc).flatten).length, 0⟩) := by
  have h1 := h.split
  have hf := h1.free (most := most.toNat) hl (by omega)
  have h2 := h1.next.then
  have hlen : l.length ≤ ((l.map enc).flatten).length := by
    clear h h1 h2 hf hP hl hm
    induction l with
    | nil => simp
    | cons x l ih => have := hpos x; simp only [List.length_cons, List.map_cons, List.flatten_cons, List.length_append]; omega
  have hroom := h2.room
  unfold Pk.Rd.list
  rw [heads_of h.f (by rw [hf]) (by rw [hf]; dsimp only; omega), hf]
  dsimp only
  rw [At.list step enc P hs l [] _ t hP h2]
  simp [Nat.add_assoc]
end Go.Proofs.YthkfcfkkamffpaaGreat
