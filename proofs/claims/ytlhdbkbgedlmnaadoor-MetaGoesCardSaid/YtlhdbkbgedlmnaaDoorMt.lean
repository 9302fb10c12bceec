/-
  Layer 6 (meta) in plain Lean: frames, records, which may be, a record's bytes.
-/
import Derived.Test.YtlhdbkbgedlmnaaDoorPk
import Derived.Test.YtlhdbkbgedlmnaaDoorCrcp
namespace Go.Proofs.YtlhdbkbgedlmnaaDoor.Mt
structure F where
  page : Int
  width : Int
  deriving DecidableEq
structure M where
  ver : Nat
  page : Nat
  sum : List UInt8
  cnt : Nat
  rver : Nat
  list : Nat
  pages : Nat
  deriving DecidableEq
/-- the record of zeros -/
def zero : M := ⟨0, 0, List.replicate 32 0, 0, 0, 0, 0⟩
structure M.Ok (m : M) : Prop where
  ver : m.ver < 18446744073709551616
  page : m.page < 4294967296
  sum : m.sum.length = 32
  cnt : m.cnt < 18446744073709551616
  rver : m.rver < 18446744073709551616
  list : m.list < 4294967296
  pages : m.pages < 4294967296
def mayF (f : F) : Bool := decide ((f.page = 1024 ∨ f.page = 2048 ∨ f.page = 4096 ∨ f.page = 8192) ∧ 1 ≤ f.width ∧ f.width ≤ 32)
def place (n pages : Nat) : Bool := decide (n = 0 ∨ (2 ≤ n ∧ n < pages))
/-- behind the width there are bytes 0 alone -/
def tailZ (w : Int) (d : List UInt8) : Bool := decide (d.drop w.toNat = List.replicate (32 - w.toNat) 0)
def numsB (m : M) : Bool := decide (1 ≤ m.ver ∧ m.ver ≤ 1099511627776 ∧ 2 ≤ m.pages ∧ m.pages ≤ 65536)
def rootB (m : M) : Bool := decide (¬ (m.page = m.list ∧ m.list ≠ 0) ∧ (m.cnt = 0 ↔ m.page = 0) ∧ (m.rver = 0 ↔ m.page = 0) ∧ m.rver ≤ m.ver)
def mayM (f : F) (m : M) : Bool := numsB m && place m.page m.pages && place m.list m.pages && rootB m && tailZ f.width m.sum
def ok (f : F) (m : M) : Bool := mayF f && mayM f m
/-- which power of two a page's length is -/
def lg (p : Int) : Nat := if p = 1024 then 10 else if p = 2048 then 11 else if p = 4096 then 12 else 13
open Pk in
/-- a record's first 76 bytes -/
def body (f : F) (m : M) : List UInt8 :=
  be 4 1752657201 ++ be 1 (lg f.page) ++ be 1 f.width ++ be 2 0 ++ be 8 m.ver ++ be 8 m.cnt ++ be 8 m.rver ++ be 4 m.page ++ be 4 m.list ++ be 4 m.pages ++ m.sum
/-- a record's bytes -/
def rec (f : F) (m : M) : List UInt8 := body f m ++ Pk.be 4 (Crc.crc (body f m))
theorem body_length (f : F) (m : M) (h : m.sum.length = 32) : (body f m).length = 76 := by simp [body, Pk.be_length, h]
theorem rec_length (f : F) (m : M) (h : m.sum.length = 32) : (rec f m).length = 80 := by simp [rec, body_length f m h, Pk.be_length]
/-- so many bytes 0 -/
def zs (n : Nat) : List UInt8 := List.replicate n 0
/-- a record's page -/
def enc (f : F) (m : M) : List UInt8 := rec f m ++ zs (f.page.toNat - 80)
theorem mayF_iff {f : F} : mayF f = true ↔ (f.page = 1024 ∨ f.page = 2048 ∨ f.page = 4096 ∨ f.page = 8192) ∧ 1 ≤ f.width ∧ f.width ≤ 32 := by unfold mayF; rw [decide_eq_true_iff]
theorem place_iff {n p : Nat} : place n p = true ↔ (n = 0 ∨ (2 ≤ n ∧ n < p)) := by unfold place; rw [decide_eq_true_iff]
theorem numsB_iff {m : M} : numsB m = true ↔ (1 ≤ m.ver ∧ m.ver ≤ 1099511627776 ∧ 2 ≤ m.pages ∧ m.pages ≤ 65536) := by unfold numsB; rw [decide_eq_true_iff]
theorem rootB_iff {m : M} : rootB m = true ↔ (¬ (m.page = m.list ∧ m.list ≠ 0) ∧ (m.cnt = 0 ↔ m.page = 0) ∧ (m.rver = 0 ↔ m.page = 0) ∧ m.rver ≤ m.ver) := by unfold rootB; rw [decide_eq_true_iff]
end Go.Proofs.YtlhdbkbgedlmnaaDoor.Mt
