/-
  Layer 27 in plain Lean: frames; what Encode and Decode answer; what is laid is read back.
-/
import Derived.Test.YthkfcfkkamffpaaGreatWp
import Derived.Test.YthkfcfkkamffpaaGreatPure
namespace Go.Proofs.YthkfcfkkamffpaaGreat
set_option linter.unusedVariables false
open Wm (M)
/-- a frame's first bytes: how long, and the body -/
def fore (b : List UInt8) : List UInt8 := Pk.be 4 ((b.length + 4 : Nat) : Int) ++ b
/-- a body's frame -/
def frame (b : List UInt8) : List UInt8 := fore b ++ Pk.be 4 ((Crc.crc (fore b) : Nat) : Int)
/-- what Encode answers -/
def encW (m : M) : List UInt8 × Nat :=
  match Wm.fields m.kind with
  | none => ([], 270)
  | some l => if Wm.mayF l m = true then (if Wm.tooLong m = true then ([], 4) else if 1048576 < (Wm.body l m).length + 8 then ([], 4) else (frame (Wm.body l m), 0)) else ([], 270)
theorem fore_len (b : List UInt8) : (fore b).length = b.length + 4 := by unfold fore; rw [List.length_append, Pk.be_length]; omega
theorem frame_len (b : List UInt8) : (frame b).length = b.length + 8 := by unfold frame; rw [List.length_append, fore_len, Pk.be_length]
theorem body_len (l : List Wm.Fd) (m : M) : 5 ≤ (Wm.body l m).length := by unfold Wm.body; rw [List.length_append, List.length_append, Pk.be_length, Pk.be_length]; omega
/-- the empty message -/
def zeroM : M := Wm.only 0 0
/-- a frame's first four bytes: how many follow, the error that they are -/
def foll (s : List UInt8) : Nat × Nat := if Pk.num (s.take 4) < 9 then (0, 271) else if 1048576 < Pk.num (s.take 4) + 4 then (0, 4) else (Pk.num (s.take 4), 0)
/-- fields read -/
def takes (l : List Wm.Fd) (m : M) (r : Pk.Rd) : M × Pk.Rd := l.foldl (fun x c => takeM x.1 x.2 c) (m, r)
/-- the Reader over a frame's body -/
def rdB (s : List UInt8) : Pk.Rd := ⟨(s.drop 4).take (s.length - 8), 0, 0⟩
def kindB (s : List UInt8) : Nat := ((rdB s).take 1).1
def idB (s : List UInt8) : Nat := (((rdB s).take 1).2.take 4).1
def restB (s : List UInt8) : Pk.Rd := (((rdB s).take 1).2.take 4).2
/-- the message that a frame's body is read as, and the Reader behind it -/
def partsB (l : List Wm.Fd) (s : List UInt8) : M × Pk.Rd := takes l (Wm.only (kindB s) (idB s)) (restB s)
/-- the message that is read from a whole frame, if it is one -/
def bodyW (s : List UInt8) : M × Nat :=
  if Crc.crc (s.take (s.length - 4)) = Pk.num (s.drop (s.length - 4)) then
    match Wm.fields (kindB s) with
    | none => (zeroM, 271)
    | some l => if (partsB l s).2.f = 0 ∧ (partsB l s).2.left = 0 then (if encW (partsB l s).1 = (s, 0) then ((partsB l s).1, 0) else (zeroM, 271)) else (zeroM, 271)
  else (zeroM, 271)
/-- what Decode answers -/
def decW (s : List UInt8) : M × Nat :=
  if s.length < 4 then (zeroM, 272) else if (foll s).2 ≠ 0 then (zeroM, (foll s).2) else if s.length - 4 < (foll s).1 then (zeroM, 272) else if s.length ≠ (foll s).1 + 4 then (zeroM, 271) else bodyW s
/-- the numbers of a message that is laid -/
structure Ok (m : M) : Prop where
  kind : m.kind < 256
  id : m.id < 4294967296
  code : m.code < 9223372036854775808
  limit : m.limit < 9223372036854775808
  frm : m.frm < 18446744073709551616
  size : m.size < 18446744073709551616
  hsize : m.hsize < 18446744073709551616
  ever : m.ever < 18446744073709551616
  ecnt : m.ecnt < 18446744073709551616
  hlog : m.hlog.length = 32
  esum : m.esum.length = 32
  trail : ∀ d ∈ m.trail, d.length = 32
  since : ∀ d ∈ m.since, d.length = 32
theorem Nm.ok {m : M} (h : Nm m) : Ok m := ⟨h.kind, h.id, h.code.2, h.limit.2, h.frm, h.size, h.hsize, h.ever, h.ecnt, h.hd.h, h.hd.e, h.trail, h.since⟩
/-- a field's bytes, no longer than so -/
theorem fb_len {m : M} (ho : Ok m) {c : Wm.Fd} (hf : Wm.fit m c = true) : (Wm.fb m c).length ≤ 1048600 := by
  have f10 := fun n h => free10 n h
  have a1 := ho.frm; have a2 := ho.size; have a3 := ho.hsize; have a4 := ho.ever; have a5 := ho.ecnt; have a6 := ho.code; have a7 := ho.limit
  cases c <;> simp only [Wm.fit, Wm.short, Bool.and_eq_true, decide_eq_true_eq, List.all_eq_true] at hf <;> simp only [Wm.fb, List.length_append]
  case K => have := f10 m.key.length (by omega); omega
  case T => have := f10 m.to.length (by omega); omega
  case V => have := f10 m.val.length (by omega); omega
  case L => have := f10 m.limit.toNat (by omega); omega
  case F => have := f10 m.frm a1; omega
  case S => have := f10 m.size a2; omega
  case f => unfold Wm.bit; split <;> simp
  case m => unfold Wm.bit; split <;> simp
  case C => have := f10 m.code.toNat (by omega); omega
  case H => have := f10 m.hsize a3; have := ho.hlog; omega
  case E => have := f10 m.ever a4; have := f10 m.ecnt a5; have := ho.esum; have := f10 m.enote.length (by omega); omega
  case t =>
    have := f10 m.trail.length (by omega)
    have h := flat_len (fun d : List UInt8 => d) 32 m.trail (fun x hx => Nat.le_of_eq (ho.trail x hx))
    rw [flat_id] at h
    omega
  case s =>
    have := f10 m.since.length (by omega)
    have h := flat_len (fun d : List UInt8 => d) 32 m.since (fun x hx => Nat.le_of_eq (ho.since x hx))
    rw [flat_id] at h
    omega
  case P =>
    obtain ⟨h1, h2⟩ := hf
    have := f10 m.pairs.length (by omega)
    have h := flat_len (fun p : List UInt8 × List UInt8 => (Pk.free p.1.length ++ p.1) ++ (Pk.free p.2.length ++ p.2)) 2068 m.pairs (fun x hx => by
      have h3 := h2 x hx
      have h4 := f10 x.1.length (by omega)
      have h5 := f10 x.2.length (by omega)
      simp only [List.length_append]
      omega)
    have : m.pairs.length * 2068 ≤ 256 * 2068 := Nat.mul_le_mul_right _ h1
    omega
  case W =>
    obtain ⟨h1, h2⟩ := hf
    have := f10 m.way.length (by omega)
    have h := flat_len (fun n : Int => Pk.free n.toNat) 10 m.way (fun x hx => by
      have h3 := h2 x hx
      exact f10 x.toNat (by omega))
    have : m.way.length * 10 ≤ 33 * 10 := Nat.mul_le_mul_right _ h1
    omega
  case B => have := f10 m.bytes.length (by omega); omega
theorem fields_far (k : Nat) (hk : 29 < k) : Wm.fields k = none := by
  unfold Wm.fields
  repeat' rw [if_neg (by omega)]
theorem fields_len (k : Nat) {l : List Wm.Fd} (h : Wm.fields k = some l) : l.length ≤ 4 := by
  have key : ∀ k : Fin 30, ((Wm.fields k.val).elim true fun l => decide (l.length ≤ 4)) = true := by decide
  by_cases hk : k < 30
  · have := key ⟨k, hk⟩
    dsimp only at this
    rw [h] at this
    simpa using this
  · rw [fields_far k (by omega)] at h
    cases h
theorem fbs_len {m : M} (ho : Ok m) : ∀ l : List Wm.Fd, (∀ c ∈ l, Wm.fit m c = true) → (l.flatMap (Wm.fb m)).length ≤ l.length * 1048600 := fun l h => flat_len (Wm.fb m) 1048600 l (fun c hc => fb_len ho (h c hc))
end Go.Proofs.YthkfcfkkamffpaaGreat
