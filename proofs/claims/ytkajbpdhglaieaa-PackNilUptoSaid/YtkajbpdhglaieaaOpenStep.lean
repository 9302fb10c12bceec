/-
  A list of Steps that came in, and a list of bools: their cells, and the bound on how much they hold. The lemma 'open_slice_fields' is the kit's (extra-structs).
-/
import Derived.Test.YtkajbpdhglaieaaOpen
import Derived.Test.YtkajbpdhglaieaaLaid
import Derived.Deep.Slices
import Derived.Deep.Fields
import Derived.Deep.Grids
import Derived.ChangeSame
namespace Go.Proofs.Ytkajbpdhglaieaa
open Go.ChangeShapes Go.WideShapes Go.ChangeAt Go.RowKit Go.Deep
set_option linter.unusedVariables false

section
variable {H : Type} {enc : TypeId × Value → H} {P : Program} {w : World} {base : Nat} {spare : Nat → Bool} {held : Bool}
theorem open_slice_fields {t e : TypeId} {fs : Array Field} {fuel : Nat} {cs : List Value} {x : DataW H × List MemPlace} (ht : P.underlying t = some (.slice e)) (he : P.underlying e = some (.struct fs))
    (hone : oneCellFields P fs = true) (hC : P.cellsOf e = fs.size) (h : DataW.trod enc P w base spare held fuel t cs = some x) :
    (cs = [.slice none 0 0] ∧ x = (.nil, [])) ∨
    ∃ (a : Addr) (len cap m : Nat) (D : Nat → DataW H) (Pl : Nat → List MemPlace), cs = [.slice (some a) len cap] ∧ base ≤ a.block ∧ len ≤ cap ∧ cap ≤ maxLen ∧ m = (if spare a.block then cap else len) ∧
      x = (.slice ((List.range len).map D) ((List.range (m - len)).map fun j => D (len + j)), MemPlace.row a (m * fs.size) ++ (List.range m).flatMap Pl) ∧
      ∀ i, i < m → ∃ (ys : List (DataW H × List MemPlace)) (n : Nat), D i = .agg (ys.map (·.1)) ∧ Pl i = ys.flatMap (·.2) ∧ ys.length = fs.size ∧
        ∀ (j : Nat) (f : Field), fs[j]? = some f → ∃ (v : Value) (y : DataW H × List MemPlace), w.cell? (a.add (i * fs.size + j)) = some v ∧ ys[j]? = some y ∧ DataW.trod enc P w base spare held n f.type [v] = some y := by
  rcases open_slice ht h with h0 | ⟨a, len, cap, m, n, D, Pl, hcs, hb, hl, hm, hmm, hx, hi⟩
  · exact .inl h0
  · refine .inr ⟨a, len, cap, m, D, Pl, hcs, hb, hl, hm, hmm, by rw [hC] at hx; exact hx, fun i him => ?_⟩
    obtain ⟨cs', hc, ht'⟩ := hi i him
    rw [hC] at hc
    obtain ⟨ys, n', hn', hy, hlen, hyl, hf⟩ := DataW.trod_struct he ht'
    obtain ⟨_, hcl, hat⟩ := World.cells?_some hc
    simp only [Prod.mk.injEq] at hy
    refine ⟨ys, n', hy.1, hy.2, hyl, fun j f hj => ?_⟩
    obtain ⟨ho, hk⟩ := hone_of hone j f hj
    have hjl : j < fs.size := (Array.getElem?_eq_some_iff.1 hj).1
    have hcell := hat j hjl
    have hv : cs'[j]? = some (cs'[j]'(by omega)) := List.getElem?_eq_getElem (by omega)
    have h1 := hf j f hj
    rw [ho, hk] at h1
    have hone' : (cs'.drop j).take 1 = [cs'[j]'(by omega)] := by
      rw [List.drop_eq_getElem_cons (by omega)]
      rfl
    rw [hone'] at h1
    have hys : ys[j]? = some (ys[j]'(by omega)) := List.getElem?_eq_getElem (by omega)
    refine ⟨_, _, ?_, hys, h1.trans hys⟩
    rw [← Go.Deep.add_add, hcell, hv]
end

section
variable {H : Type} {enc : TypeId × Value → H}
set_option maxRecDepth 100000 in
theorem strs_at {W : World} {fuel : Nat} {v : Value} {y : DataW H × List MemPlace} (h : DataW.trod enc Try.prog W 0 (fun _ => true) true fuel 23 [v] = some y) :
    ∃ (A : Option Addr) (n c : Nat) (parts : List (List UInt8)), v = .slice A n c ∧ Lst W A n (strs parts) ∧ n + parts.flatten.length + 1 ≤ Rows.uptoBulk y.1 := by
  rcases open_strings Try.underlying23 Try.underlying9 cells_string h with ⟨hcs, hx⟩ | ⟨a, len', cap', ss, hcs, _, hl, hm, hz, hx, hcell, hws⟩
  · simp at hcs
    subst hcs hx
    exact ⟨_, _, _, [], rfl, Lst.none_ _ _, by simp [Rows.uptoBulk]⟩
  · simp at hcs
    subst hcs
    simp only [if_true] at hz
    subst hx
    refine ⟨_, _, _, (ss.take len').map fun s => s.data.toList, rfl, ⟨by simp [strs]; omega, fun hn => ?_⟩, ?_⟩
    · obtain ⟨b, off, spot⟩ := a
      have h0 := hcell 0 (by omega)
      have hspot : spot = none := by simpa [Addr.add] using World.cell?_spot h0
      subst hspot
      refine ⟨b, off, rfl, fun j u hu => ?_⟩
      have hj : j < len' := by
        have := (List.getElem?_eq_some_iff.1 hu).1
        simp [strs] at this; omega
      have h1 := hcell j (by omega)
      have hadd : (⟨b, off, none⟩ : Addr).add j = ⟨b, off + j, none⟩ := by unfold Addr.add; split <;> simp_all
      rw [hadd] at h1
      rw [h1]
      have hjs : j < ss.length := by omega
      simp only [strs, List.getElem?_map, List.getElem?_take, if_pos hj, List.getElem?_eq_getElem hjs, Option.map_some] at hu
      rw [← hu]
      simp [S, List.getD, List.getElem?_eq_getElem hjs]
    · have e := bulk_strs (H := H) (ss.take len')
      simp only [Rows.uptoBulk]
      have e2 : Rows.uptoBulkAll (Go.ChangeShapes.strs (H := H) (ss.take len')) = _ := e
      rw [e2]
      simp
      omega
theorem bulk_lits (k : IntKind) (zs : List Int) : Rows.uptoBulkAll (lits k zs : List (DataW H)) = zs.length := by
  induction zs with
  | nil => rfl
  | cons z zs ih =>
    have : (lits k (z :: zs) : List (DataW H)) = .lit (.int k z) :: lits k zs := rfl
    rw [this]
    simp only [Rows.uptoBulkAll, Rows.uptoBulk, ih, List.length_cons]
    omega
theorem cells_u64 : Try.prog.cellsOf 22 = 1 := by kernel_rfl
theorem cells_bool : Try.prog.cellsOf 4 = 1 := by kernel_rfl
set_option maxRecDepth 100000 in
theorem u64s_at {W : World} {fuel : Nat} {v : Value} {y : DataW H × List MemPlace} (h : DataW.trod enc Try.prog W 0 (fun _ => true) true fuel 37 [v] = some y) :
    ∃ (A : Option Addr) (n c : Nat) (ns : List Nat), v = .slice A n c ∧ Lst W A n (u64s ns) ∧ (∀ n ∈ ns, U64 n) ∧ n + 1 ≤ Rows.uptoBulk y.1 := by
  rcases open_ints Try.underlying37 Try.underlying22 cells_u64 h with ⟨hcs, hx⟩ | ⟨a, len, cap, zs, hcs, _, hl, hm, hz, hx, hcell, hws⟩
  · simp at hcs
    subst hcs hx
    exact ⟨_, _, _, [], rfl, Lst.none_ _ _, by simp, by simp [Rows.uptoBulk]⟩
  · simp at hcs
    subst hcs
    simp only [if_true] at hz
    subst hx
    have hnn : ∀ z ∈ zs, 0 ≤ z ∧ z < 18446744073709551616 := fun z hz => by
      have := hws z hz
      simp [Lit.wf, IntKind.min, IntKind.max, IntKind.signed, IntKind.bits] at this
      omega
    refine ⟨_, _, _, (zs.take len).map Int.toNat, rfl, ⟨by simp [u64s]; omega, fun hn => ?_⟩, ?_, ?_⟩
    · obtain ⟨b, off, spot⟩ := a
      have h0 := hcell 0 (by omega)
      have hspot : spot = none := by simpa [Addr.add] using World.cell?_spot h0
      subst hspot
      refine ⟨b, off, rfl, fun j u hu => ?_⟩
      have hj : j < len := by
        have := (List.getElem?_eq_some_iff.1 hu).1
        simp [u64s] at this; omega
      have h1 := hcell j (by omega)
      have hadd : (⟨b, off, none⟩ : Addr).add j = ⟨b, off + j, none⟩ := by unfold Addr.add; split <;> simp_all
      rw [hadd] at h1
      rw [h1]
      have hjs : j < zs.length := by omega
      have hzz := hnn _ (List.getElem_mem hjs)
      simp only [u64s, List.getElem?_map, List.getElem?_take, if_pos hj, List.getElem?_eq_getElem hjs, Option.map_some, Option.some.injEq] at hu
      rw [← hu]
      simp only [List.getD, List.getElem?_eq_getElem hjs, Option.getD_some]
      congr 2
      omega
    · intro n hn
      obtain ⟨z, hz, rfl⟩ := List.mem_map.1 hn
      have := hnn z (List.mem_of_mem_take hz)
      unfold U64; omega
    · simp only [Rows.uptoBulk, bulk_lits, List.length_take, List.length_drop]
      omega
theorem int_at {W : World} {fuel : Nat} {v : Value} {y : DataW H × List MemPlace} (h : DataW.trod enc Try.prog W 0 (fun _ => true) true fuel 3 [v] = some y) : ∃ a : Int, v = .int .i64 a ∧ I64 a := by
  obtain ⟨x, hcs, _, hw⟩ := DataW.trod_int Try.underlying3 h
  simp [Lit.wf, IntKind.min, IntKind.max, IntKind.signed, IntKind.bits] at hw
  exact ⟨x, by simpa using hcs, by unfold I64; omega⟩
theorem i64_at {W : World} {fuel : Nat} {v : Value} {y : DataW H × List MemPlace} (h : DataW.trod enc Try.prog W 0 (fun _ => true) true fuel 2 [v] = some y) : ∃ a : Int, v = .int .i64 a ∧ I64 a := by
  obtain ⟨x, hcs, _, hw⟩ := DataW.trod_int Try.underlying2 h
  simp [Lit.wf, IntKind.min, IntKind.max, IntKind.signed, IntKind.bits] at hw
  exact ⟨x, by simpa using hcs, by unfold I64; omega⟩
theorem u64_at {W : World} {fuel : Nat} {v : Value} {y : DataW H × List MemPlace} (h : DataW.trod enc Try.prog W 0 (fun _ => true) true fuel 22 [v] = some y) : ∃ a : Nat, v = .int .u64 a ∧ U64 a := by
  obtain ⟨x, hcs, _, hw⟩ := DataW.trod_int Try.underlying22 h
  simp [Lit.wf, IntKind.min, IntKind.max, IntKind.signed, IntKind.bits] at hw
  refine ⟨x.toNat, ?_, by unfold U64; omega⟩
  have : v = .int .u64 x := by simpa using hcs
  rw [this]; congr 1; omega
theorem str_at {W : World} {fuel : Nat} {v : Value} {y : DataW H × List MemPlace} (h : DataW.trod enc Try.prog W 0 (fun _ => true) true fuel 9 [v] = some y) : ∃ l : List UInt8, v = S l ∧ l.length + 1 ≤ Rows.uptoBulk y.1 := by
  obtain ⟨s, hcs, rfl, _⟩ := DataW.trod_string Try.underlying9 h
  exact ⟨s.data.toList, by simpa using hcs, by simp [Rows.uptoBulk]⟩

/-- how much a Step holds -/
def St.bulk (x : St) : Nat := x.s.length + (x.an + x.parts.flatten.length) + x.bn + 1
/-- a list of Steps stands in the memory -/
def Steps (w : World) (A : Option Addr) (n : Nat) (xs : List St) : Prop :=
  xs.length = n ∧ (∀ x ∈ xs, x.Ok w) ∧ (0 < n → ∃ b off, A = some ⟨b, off, none⟩ ∧ ∀ i x, xs[i]? = some x → ∀ j u, x.cells[j]? = some u → w.cell? ⟨b, off + (i * 9 + j), none⟩ = some u)
def bulks (xs : List St) : Nat := (xs.map St.bulk).sum
theorem choose_list {α : Type} {p : Nat → α → Prop} : ∀ n : Nat, (∀ i, i < n → ∃ x, p i x) → ∃ xs : List α, xs.length = n ∧ ∀ i x, xs[i]? = some x → p i x := by
  intro n
  induction n with
  | zero => intro _; exact ⟨[], rfl, by simp⟩
  | succ n ih =>
    intro h
    obtain ⟨xs, hl, hx⟩ := ih (fun i hi => h i (by omega))
    obtain ⟨x, hxn⟩ := h n (by omega)
    refine ⟨xs ++ [x], by simp [hl], fun i y hy => ?_⟩
    rcases Nat.lt_or_ge i n with hi | hi
    · rw [List.getElem?_append_left (by omega)] at hy
      exact hx i y hy
    · rw [List.getElem?_append_right (by omega), hl] at hy
      have : i = n := by
        have := (List.getElem?_eq_some_iff.1 hy).1
        simp at this; omega
      subst this
      simp at hy
      subst hy
      exact hxn
theorem bulks_le (D : Nat → DataW H) : ∀ (n : Nat) (xs : List St), xs.length = n → (∀ i x, xs[i]? = some x → x.bulk ≤ Rows.uptoBulk (D i)) → bulks xs ≤ Rows.uptoBulkAll ((List.range n).map D) := by
  intro n
  induction n with
  | zero => intro xs hl _; have : xs = [] := List.length_eq_zero_iff.1 hl; subst this; simp [bulks]
  | succ n ih =>
    intro xs hl h
    rw [List.range_succ, List.map_append, bulk_append]
    have hne : xs ≠ [] := by intro e; subst e; simp at hl
    obtain ⟨ys, y, rfl⟩ : ∃ ys y, xs = ys ++ [y] := ⟨xs.dropLast, xs.getLast hne, (List.dropLast_concat_getLast hne).symm⟩
    have hyl : ys.length = n := by simpa using hl
    have h1 := ih ys hyl (fun i x hx => h i x (by rw [List.getElem?_append_left (List.getElem?_eq_some_iff.1 hx).1]; exact hx))
    have h2 := h n y (by rw [List.getElem?_append_right (by omega), hyl]; simp)
    have e : bulks (ys ++ [y]) = bulks ys + y.bulk := by simp [bulks]
    rw [e]
    simp only [List.map_cons, List.map_nil, Rows.uptoBulkAll]
    omega
theorem len_bulks (xs : List St) : xs.length ≤ bulks xs := by
  induction xs with
  | nil => simp
  | cons x xs ih =>
    have e : bulks (x :: xs) = x.bulk + bulks xs := by simp [bulks]
    rw [e, List.length_cons]; unfold St.bulk; omega
theorem steps_len {w : World} {A : Option Addr} {n : Nat} {xs : List St} (h : Steps w A n xs) : n ≤ bulks xs := by rw [← h.1]; exact len_bulks xs
theorem cells_step : Try.prog.cellsOf 39 = 9 := by kernel_rfl
set_option maxRecDepth 100000 in
/-- a list of Steps that came in -/
theorem opens_steps {W : World} {base : Nat} {v : Value} {d : DataW H} {p : List MemPlace} (hbd : Rows.uptoBulk d ≤ 1048576) (hval : Value.okWide Try.prog W .any base 41 v)
    (h : DataW.Trod enc Try.prog W 0 (fun _ => true) true 41 v d p) :
    ∃ (A : Option Addr) (n c : Nat) (xs : List St), v = .slice A n c ∧ Steps W A n xs ∧ bulks xs + 1 ≤ Rows.uptoBulk d := by
  obtain ⟨a0, len, cap, rfl⟩ := okWide_slice Try.underlying41 hval
  obtain ⟨fuel, hf⟩ := h
  rcases open_slice_fields Try.underlying41 Try.underlying39 (by kernel_rfl) cells_step hf with ⟨hcs, hx⟩ | ⟨a, len', cap', m, D, Pl, hcs, _, hl, hm, hz, hx, hi⟩
  · simp [Value.cells] at hcs
    obtain ⟨rfl, rfl, rfl⟩ := hcs
    simp only [Prod.mk.injEq] at hx
    obtain ⟨rfl, _⟩ := hx
    exact ⟨_, _, _, [], rfl, ⟨rfl, by simp, fun h => absurd h (by omega)⟩, by simp [bulks, Rows.uptoBulk]⟩
  · simp [Value.cells] at hcs
    obtain ⟨rfl, rfl, rfl⟩ := hcs
    simp only [if_true] at hz
    subst hz
    simp only [Prod.mk.injEq] at hx
    obtain ⟨rfl, _⟩ := hx
    simp only [Rows.uptoBulk] at hbd
    have hkey : ∀ i, i < len → ∃ x : St, x.Ok W ∧ x.bulk ≤ Rows.uptoBulk (D i) ∧ ∀ j u, x.cells[j]? = some u → W.cell? (a.add (i * 9 + j)) = some u := by
      intro i hil
      obtain ⟨ys, n, hD, _, hyl, hff⟩ := hi i (by omega)
      obtain ⟨u0, y0, c0, e0, t0⟩ := hff 0 _ rfl
      obtain ⟨u1, y1, c1, e1, t1⟩ := hff 1 _ rfl
      obtain ⟨u2, y2, c2, e2, t2⟩ := hff 2 _ rfl
      obtain ⟨u3, y3, c3, e3, t3⟩ := hff 3 _ rfl
      obtain ⟨u4, y4, c4, e4, t4⟩ := hff 4 _ rfl
      obtain ⟨u5, y5, c5, e5, t5⟩ := hff 5 _ rfl
      obtain ⟨u6, y6, c6, e6, t6⟩ := hff 6 _ rfl
      obtain ⟨u7, y7, c7, e7, t7⟩ := hff 7 _ rfl
      obtain ⟨u8, y8, c8, e8, t8⟩ := hff 8 _ rfl
      obtain ⟨a0, rfl, w0⟩ := int_at t0
      obtain ⟨a1, rfl, w1⟩ := u64_at t1
      obtain ⟨a2, rfl, w2⟩ := i64_at t2
      obtain ⟨a3, rfl, w3⟩ := str_at t3
      obtain ⟨A4, n4, cc4, a4, rfl, l4, b4⟩ := strs_at t4
      obtain ⟨A5, n5, cc5, a5, rfl, l5, w5, b5⟩ := u64s_at t5
      obtain ⟨a6, rfl, w6⟩ := int_at t6
      obtain ⟨a7, rfl, w7⟩ := u64_at t7
      obtain ⟨a8, rfl, w8⟩ := int_at t8
      have hys : ys = [y0, y1, y2, y3, y4, y5, y6, y7, y8] := by
        match ys, hyl, e0, e1, e2, e3, e4, e5, e6, e7, e8 with
        | [_, _, _, _, _, _, _, _, _], _, e0, e1, e2, e3, e4, e5, e6, e7, e8 => simp at e0 e1 e2 e3 e4 e5 e6 e7 e8; subst e0 e1 e2 e3 e4 e5 e6 e7 e8; rfl
      have hb : (St.mk a0 a1 a2 a3 A4 n4 cc4 a4 A5 n5 cc5 a5 a6 a7 a8).bulk ≤ Rows.uptoBulk (D i) := by
        rw [hD, hys]
        simp only [St.bulk, List.map_cons, List.map_nil, Rows.uptoBulk, Rows.uptoBulkAll]
        omega
      have hbi : Rows.uptoBulk (D i) ≤ Rows.uptoBulkAll ((List.range len).map D) := bulk_part (List.mem_map.2 ⟨i, List.mem_range.2 hil, rfl⟩)
      refine ⟨St.mk a0 a1 a2 a3 A4 n4 cc4 a4 A5 n5 cc5 a5 a6 a7 a8, ⟨w1, w2, w0, w6, w7, w8, l4, l5, w5, ?_⟩, hb, ?_⟩
      · simp only [St.bulk] at hb ⊢; omega
      · intro j u hu
        have hj : j < 9 := by
          have := (Array.getElem?_eq_some_iff.1 hu).1
          simpa [St.cells] using this
        match j, hj with
        | 0, _ => simp [St.cells] at hu; subst hu; exact c0
        | 1, _ => simp [St.cells] at hu; subst hu; exact c1
        | 2, _ => simp [St.cells] at hu; subst hu; exact c2
        | 3, _ => simp [St.cells] at hu; subst hu; exact c3
        | 4, _ => simp [St.cells] at hu; subst hu; exact c4
        | 5, _ => simp [St.cells] at hu; subst hu; exact c5
        | 6, _ => simp [St.cells] at hu; subst hu; exact c6
        | 7, _ => simp [St.cells] at hu; subst hu; exact c7
        | 8, _ => simp [St.cells] at hu; subst hu; exact c8
        | _ + 9, h => exact absurd h (by omega)
    obtain ⟨xs, hxl, hxs⟩ := choose_list len hkey
    refine ⟨_, _, _, xs, rfl, ⟨hxl, fun x hx => ?_, fun hn => ?_⟩, ?_⟩
    · obtain ⟨i, hi⟩ := List.getElem?_of_mem hx
      exact (hxs i x hi).1
    · obtain ⟨b, off, spot⟩ := a
      have h0 := (hxs 0 (xs[0]'(by omega)) (List.getElem?_eq_getElem (by omega))).2.2 0 (.int .i64 (xs[0]'(by omega)).kind) rfl
      have hspot : spot = none := by simpa [Addr.add] using World.cell?_spot h0
      subst hspot
      refine ⟨b, off, rfl, fun i x hx j u hu => ?_⟩
      have h1 := (hxs i x hx).2.2 j u hu
      have hadd : (⟨b, off, none⟩ : Addr).add (i * 9 + j) = ⟨b, off + (i * 9 + j), none⟩ := by unfold Addr.add; split <;> simp_all
      rwa [hadd] at h1
    · have := bulks_le D len xs hxl (fun i x hx => (hxs i x hx).2.1)
      simp only [Rows.uptoBulk]
      omega
def bools (l : List Bool) : List Value := l.map .bool
set_option maxRecDepth 100000 in
/-- a list of bools that came in -/
theorem opens_bools {W : World} {base : Nat} {v : Value} {d : DataW H} {p : List MemPlace} (hval : Value.okWide Try.prog W .any base 42 v)
    (h : DataW.Trod enc Try.prog W 0 (fun _ => true) true 42 v d p) :
    ∃ (A : Option Addr) (n c : Nat) (bs : List Bool), v = .slice A n c ∧ Lst W A n (bools bs) ∧ n ≤ 9223372036854775807 := by
  obtain ⟨a0, len, cap, rfl⟩ := okWide_slice Try.underlying42 hval
  obtain ⟨fuel, hf⟩ := h
  rcases open_bools Try.underlying42 Try.underlying4 cells_bool hf with ⟨hcs, hx⟩ | ⟨a, len', cap', B, hcs, _, hl, hm, hx, hi⟩
  · simp [Value.cells] at hcs
    obtain ⟨rfl, rfl, rfl⟩ := hcs
    exact ⟨_, _, _, [], rfl, Lst.none_ _ _, by omega⟩
  · simp [Value.cells] at hcs
    obtain ⟨rfl, rfl, rfl⟩ := hcs
    refine ⟨_, _, _, (List.range len).map B, rfl, ⟨by simp [bools], fun hn => ?_⟩, by unfold maxLen at hm; omega⟩
    obtain ⟨b, off, spot⟩ := a
    have h0 := hi 0 (by omega)
    have hspot : spot = none := by simpa [Addr.add] using World.cell?_spot h0
    subst hspot
    refine ⟨b, off, rfl, fun j u hu => ?_⟩
    have hj : j < len := by
      have := (List.getElem?_eq_some_iff.1 hu).1
      simpa [bools] using this
    have h1 := hi j (by omega)
    have hadd : (⟨b, off, none⟩ : Addr).add j = ⟨b, off + j, none⟩ := by unfold Addr.add; split <;> simp_all
    rw [hadd] at h1
    rw [h1, ← hu]
    simp [bools, List.getElem?_range hj]
end
end Go.Proofs.Ytkajbpdhglaieaa
