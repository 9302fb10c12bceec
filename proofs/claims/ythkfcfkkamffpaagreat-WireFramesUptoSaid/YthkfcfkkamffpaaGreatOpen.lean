/-
  What the row's reading of an argument gives to the walk, with the bound on how much is read.
-/
import Derived.Test.YthkfcfkkamffpaaGreatRead
import Derived.Test.YthkfcfkkamffpaaGreatWt
import Derived.SliceStrings
namespace Go.Proofs.YthkfcfkkamffpaaGreat
open Go.ChangeShapes Go.WideShapes Go.ChangeAt Go.RowKit
open Go.ChangeMaps (open_string)
set_option linter.unusedVariables false

section
variable {H : Type} {enc : TypeId × Value → H}
theorem bulk_part {d : DataW H} {l : List (DataW H)} (h : d ∈ l) : Rows.uptoBulk d ≤ Rows.uptoBulkAll l := by
  induction l with
  | nil => cases h
  | cons x r ih =>
    simp only [Rows.uptoBulkAll]
    cases List.mem_cons.1 h with
    | inl e => subst e; omega
    | inr e => have := ih e; omega
theorem bulk_append (l r : List (DataW H)) : Rows.uptoBulkAll (l ++ r) = Rows.uptoBulkAll l + Rows.uptoBulkAll r := by
  induction l with
  | nil => simp [Rows.uptoBulkAll]
  | cons x l ih => simp only [List.cons_append, Rows.uptoBulkAll, ih]; omega
theorem bulk_strs (ss : List ByteArray) : Rows.uptoBulkAll (ss.map fun s => (DataW.lit (.string s.data.toList) : DataW H)) = ((ss.map fun s => s.data.toList).flatten).length + ss.length := by
  induction ss with
  | nil => rfl
  | cons s ss ih =>
    simp only [List.map_cons, Rows.uptoBulkAll, Rows.uptoBulk, List.flatten_cons, List.length_append, List.length_cons] at ih ⊢
    omega
theorem cells_string : Tryz.prog.cellsOf 9 = 1 := by kernel_rfl
set_option maxRecDepth 100000 in
/-- a list of texts that came in -/
theorem opens_strs {W : World} {base : Nat} {v : Value} {d : DataW H} {p : List MemPlace} (hval : Value.okWide Tryz.prog W .any base 51 v)
    (h : DataW.Trod enc Tryz.prog W 0 (fun _ => true) true 51 v d p) :
    ∃ (A : Option Addr) (n c : Nat) (parts : List (List UInt8)), v = .slice A n c ∧ Lst W A n (strs parts) ∧ parts.length = n ∧ n + parts.flatten.length ≤ Rows.uptoBulk d := by
  obtain ⟨a0, len, cap, rfl⟩ := okWide_slice Tryz.underlying51 hval
  obtain ⟨fuel, hf⟩ := h
  rcases open_strings Tryz.underlying51 Tryz.underlying9 cells_string hf with ⟨hcs, hx⟩ | ⟨a, len', cap', ss, hcs, _, hl, hm, hz, hx, hcell, hws⟩
  · simp [Value.cells] at hcs
    obtain ⟨rfl, rfl, rfl⟩ := hcs
    exact ⟨_, _, _, [], rfl, Lst.none_ _ _, rfl, by simp⟩
  · simp [Value.cells] at hcs
    obtain ⟨rfl, rfl, rfl⟩ := hcs
    simp only [if_true] at hz
    simp only [Prod.mk.injEq] at hx
    obtain ⟨hd, _⟩ := hx
    refine ⟨_, _, _, (ss.take len).map fun s => s.data.toList, rfl, ⟨by simp [strs]; omega, fun hn => ?_⟩, by simp; omega, ?_⟩
    · obtain ⟨b, off, spot⟩ := a
      have h0 := hcell 0 (by omega)
      have hspot : spot = none := by simpa [Addr.add] using World.cell?_spot h0
      subst hspot
      refine ⟨b, off, rfl, fun j u hu => ?_⟩
      have hj : j < len := by
        have := (List.getElem?_eq_some_iff.1 hu).1
        simp [strs] at this; omega
      have h1 := hcell j (by omega)
      have hadd : (⟨b, off, none⟩ : Addr).add j = ⟨b, off + j, none⟩ := by unfold Addr.add; split <;> simp_all
      rw [hadd] at h1
      rw [h1]
      have hjs : j < ss.length := by omega
      simp only [strs, List.getElem?_map, List.getElem?_take, if_pos hj, List.getElem?_eq_getElem hjs, Option.map_some] at hu
      rw [← hu]
      simp [S, List.getD, List.getElem?_eq_getElem hjs]
    · rw [hd]
      have e := bulk_strs (H := H) (ss.take len)
      simp only [Rows.uptoBulk]
      have e2 : Rows.uptoBulkAll (Go.ChangeShapes.strs (H := H) (ss.take len)) = _ := e
      rw [e2]
      simp
      omega
set_option maxRecDepth 100000 in
/-- a uint64 that came in -/
theorem opens_u64 {W : World} {base : Nat} {v : Value} {d : DataW H} {p : List MemPlace} (hval : Value.okWide Tryz.prog W .any base 25 v)
    (h : DataW.Trod enc Tryz.prog W 0 (fun _ => true) true 25 v d p) : ∃ a : Nat, v = .int .u64 a ∧ U64 a := by
  obtain ⟨x, rfl, rfl, rfl, hw⟩ := open_int Tryz.underlying25 hval h
  have hb : 0 ≤ x ∧ x < 18446744073709551616 := by
    simp [Lit.wf, IntKind.min, IntKind.max, IntKind.signed, IntKind.bits] at hw
    omega
  exact ⟨x.toNat, by congr 1; omega, by unfold U64; omega⟩
set_option maxRecDepth 100000 in
/-- an int that came in -/
theorem opens_int {W : World} {base : Nat} {v : Value} {d : DataW H} {p : List MemPlace} (hval : Value.okWide Tryz.prog W .any base 3 v)
    (h : DataW.Trod enc Tryz.prog W 0 (fun _ => true) true 3 v d p) : ∃ a : Int, v = .int .i64 a ∧ I64 a := by
  obtain ⟨x, rfl, rfl, rfl, hw⟩ := open_int Tryz.underlying3 hval h
  have hb : -9223372036854775808 ≤ x ∧ x < 9223372036854775808 := by
    simp [Lit.wf, IntKind.min, IntKind.max, IntKind.signed, IntKind.bits] at hw
    omega
  exact ⟨x, rfl, hb⟩
set_option maxRecDepth 100000 in
/-- a text that came in -/
theorem opens_str {W : World} {base : Nat} {v : Value} {d : DataW H} {p : List MemPlace} (hval : Value.okWide Tryz.prog W .any base 9 v)
    (h : DataW.Trod enc Tryz.prog W 0 (fun _ => true) true 9 v d p) : ∃ l : List UInt8, v = S l ∧ l.length ≤ Rows.uptoBulk d := by
  obtain ⟨s, rfl, rfl, rfl, hs⟩ := open_string Tryz.underlying9 hval h
  exact ⟨s.data.toList, rfl, by simp [Rows.uptoBulk]⟩
theorem bulk_of {l : List (DataW H)} (hk : Rows.uptoSmall H l = true) : Rows.uptoBulkAll l ≤ 1048576 := of_decide_eq_true hk
end
end Go.Proofs.YthkfcfkkamffpaaGreat
