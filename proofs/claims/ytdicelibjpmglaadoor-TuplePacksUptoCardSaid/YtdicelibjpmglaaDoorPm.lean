/-
  Layer 3: a lent row whose first items are written over by those of another row.
-/
import Derived.Test.YtdicelibjpmglaaDoorLc
namespace Go.Proofs.YtdicelibjpmglaaDoor
open Go.RowKit
set_option linter.unusedVariables false
set_option linter.unusedSimpArgs false
attribute [local go_sem] run_store_float
open Tp (It)

/-- a row's items in memory, their lists' slices by name -/
theorem Row.vals {w : World} {B n cap : Nat} {A : Option Addr} {l : List It} (h : Row w B (.slice A n cap) l) :
    ∃ vs : List Value, vs.length = l.length ∧ ∀ (i k : Nat) (b : Bool) (m : Int) (f : Nat) (t : List UInt8) (ls : List It), l[i]? = some (It.mk k b m f t ls) →
      ∃ (g off : Nat) (v : Value), A = some ⟨g, off, none⟩ ∧ g < B ∧ vs[i]? = some v ∧ InIt k m f t ∧ Row w B v ls ∧ ∀ (j : Nat) (u : Value), (icells k b m f t v)[j]? = some u → w.cell? ⟨g, off + i * 6 + j, none⟩ = some u := by
  cases h with
  | nil A cap hc1 => exact ⟨[], rfl, fun i k b m f t ls h => by simp at h⟩
  | mk g off cap l vs hg hl hcap hc1 hin hcs hr =>
    refine ⟨vs, hl, fun i k b m f t ls h => ?_⟩
    have hi := (List.getElem?_eq_some_iff.1 h).1
    have hv : vs[i]? = some (vs[i]'(by omega)) := List.getElem?_eq_getElem (by omega)
    exact ⟨g, off, _, rfl, hg, hv, hin k b m f t ls (List.mem_of_getElem? h), hr i k b m f t ls _ h hv, hcs i k b m f t ls _ h hv⟩
/-- six cells stored -/
theorem ics_set : ∀ (l : List It) (vs : List Value) (M : List Value), vs.length = l.length → ∀ (i k : Nat) (b : Bool) (n : Int) (f : Nat) (t : List UInt8) (ls : List It) (v : Value), i < l.length →
    ((((((ics l vs ++ M).set (i * 6) (.int .u8 k)).set (i * 6 + 1) (.bool b)).set (i * 6 + 2) (.int .i64 n)).set (i * 6 + 3) (.float .f64 f)).set (i * 6 + 4) (S t)).set (i * 6 + 5) v = ics (l.set i (.mk k b n f t ls)) (vs.set i v) ++ M
  | [], vs, M, h, i, k, b, n, f, t, ls, v, hi => by simp at hi
  | y :: l, [], M, h, i, k, b, n, f, t, ls, v, hi => by simp at h
  | .mk k' b' n' f' t' ls' :: l, z :: vs, M, h, 0, k, b, n, f, t, ls, v, hi => by
    simp [ics, ic, icells]
  | .mk k' b' n' f' t' ls' :: l, z :: vs, M, h, i + 1, k, b, n, f, t, ls, v, hi => by
    have ih := ics_set l vs M (by simpa using h) i k b n f t ls v (by simpa using hi)
    simp only [List.set_cons_succ, ics, ic, icells, List.cons_append, List.nil_append, List.append_assoc]
    rw [← ih]
    have e0 : (i + 1) * 6 = i * 6 + 6 := by omega
    rw [e0]
    simp only [List.set_cons_succ, Nat.add_assoc, show 6 + 1 = 7 from rfl, show 6 + 2 = 8 from rfl, show 6 + 3 = 9 from rfl, show 6 + 4 = 10 from rfl, show 6 + 5 = 11 from rfl]
/-- a mixed row in memory -/
theorem mix_row {w : World} {g cap : Nat} {l : List It} {vs : List Value} (hl : vs.length = l.length) (hlen : l.length ≤ 10000)
    (hin : ∀ (k : Nat) (b : Bool) (n : Int) (f : Nat) (t : List UInt8) (ls : List It), It.mk k b n f t ls ∈ l → InIt k n f t)
    (own : w.ownsRow g 37 6 (.slice (some ⟨g, 0, none⟩) (l.length + 5) cap) (l.length + 5) (ics l vs ++ marks 5))
    (hr : ∀ (i k : Nat) (b : Bool) (n : Int) (f : Nat) (t : List UInt8) (ls : List It) (v : Value), l[i]? = some (It.mk k b n f t ls) → vs[i]? = some v → Row w w.heap.size v ls) :
    Row w w.heap.size (.slice (some ⟨g, 0, none⟩) l.length cap) l := by
  have hg := (own.lt g rfl).2
  have hcap : l.length + 5 ≤ cap := by
    rcases own.2 with ⟨h, -⟩ | ⟨g', cap', cur, h, -, -, hc, -⟩
    · cases h
    · injection h with h1 h2 h3; omega
  refine .mk g 0 cap l vs hg hl (by omega) (by omega) hin ?_ hr
  intro i k b n f t ls v h1 h2 j u hu
  have h3 := ics_at l vs hl i _ v h1 h2 j u hu
  have h4 := own.cells (g := g) rfl (i * 6 + j) u (by rw [List.getElem?_append_left (List.getElem?_eq_some_iff.1 h3).1]; exact h3)
  have hadd : (⟨g, 0, none⟩ : Addr).add (i * 6 + j) = ⟨g, i * 6 + j, none⟩ := by unfold Addr.add; split <;> simp_all
  rw [hadd] at h4
  rw [Nat.zero_add]; exact h4
end Go.Proofs.YtdicelibjpmglaaDoor
