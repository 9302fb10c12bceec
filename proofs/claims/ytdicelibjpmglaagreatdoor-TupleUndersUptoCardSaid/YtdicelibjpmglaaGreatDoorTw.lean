/-
  Layer 3: items that came in.
-/
import Derived.Test.YtdicelibjpmglaaGreatDoorTi
import Derived.Test.YtdicelibjpmglaaGreatDoorLift
import Derived.Deep.Slices
import Derived.Deep.Fields
import Derived.ChangeArms
import Derived.ChangeSame
namespace Go.Proofs.YtdicelibjpmglaaGreatDoor
open Go.ChangeShapes Go.WideShapes Go.ChangeAt Go.RowKit Go.Deep
open Go.ChangeMaps (open_string)
set_option linter.unusedVariables false
open Tp (It)

section
variable {H : Type} {enc : TypeId × Value → H} {P : Program} {w : World} {base : Nat} {spare : Nat → Bool} {held : Bool}
theorem open_slice_fields {t e : TypeId} {fs : Array Field} {fuel : Nat} {cs : List Value} {x : DataW H × List MemPlace} (ht : P.underlying t = some (.slice e)) (he : P.underlying e = some (.struct fs))
    (hone : oneCellFields P fs = true) (hC : P.cellsOf e = fs.size) (h : DataW.trod enc P w base spare held fuel t cs = some x) :
    (cs = [.slice none 0 0] ∧ x = (.nil, [])) ∨
    ∃ (a : Addr) (len cap m : Nat) (D : Nat → DataW H) (Pl : Nat → List MemPlace), cs = [.slice (some a) len cap] ∧ base ≤ a.block ∧ len ≤ cap ∧ cap ≤ maxLen ∧ m = (if spare a.block then cap else len) ∧
      x = (.slice ((List.range len).map D) ((List.range (m - len)).map fun j => D (len + j)), MemPlace.row a (m * fs.size) ++ (List.range m).flatMap Pl) ∧
      ∀ i, i < m → ∃ (ys : List (DataW H × List MemPlace)) (n : Nat), D i = .agg (ys.map (·.1)) ∧ Pl i = ys.flatMap (·.2) ∧ ys.length = fs.size ∧
        ∀ (j : Nat) (f : Field), fs[j]? = some f → ∃ (v : Value) (y : DataW H × List MemPlace), w.cell? (a.add (i * fs.size + j)) = some v ∧ ys[j]? = some y ∧ DataW.trod enc P w base spare held n f.type [v] = some y := by
  rcases open_slice ht h with h0 | ⟨a, len, cap, m, n, D, Pl, hcs, hb, hl, hm, hmm, hx, hi⟩
  · exact .inl h0
  · refine .inr ⟨a, len, cap, m, D, Pl, hcs, hb, hl, hm, hmm, by rw [hC] at hx; exact hx, fun i him => ?_⟩
    obtain ⟨cs', hc, ht'⟩ := hi i him
    rw [hC] at hc
    obtain ⟨ys, n', hn', hy, hlen, hyl, hf⟩ := DataW.trod_struct he ht'
    obtain ⟨_, hcl, hat⟩ := World.cells?_some hc
    simp only [Prod.mk.injEq] at hy
    refine ⟨ys, n', hy.1, hy.2, hyl, fun j f hj => ?_⟩
    obtain ⟨ho, hk⟩ := hone_of hone j f hj
    have hjl : j < fs.size := (Array.getElem?_eq_some_iff.1 hj).1
    have hcell := hat j hjl
    have hv : cs'[j]? = some (cs'[j]'(by omega)) := List.getElem?_eq_getElem (by omega)
    have h1 := hf j f hj
    rw [ho, hk] at h1
    have hone' : (cs'.drop j).take 1 = [cs'[j]'(by omega)] := by
      rw [List.drop_eq_getElem_cons (by omega)]
      rfl
    rw [hone'] at h1
    have hys : ys[j]? = some (ys[j]'(by omega)) := List.getElem?_eq_getElem (by omega)
    refine ⟨_, _, ?_, hys, h1.trans hys⟩
    rw [← Go.Deep.add_add, hcell, hv]
theorem trod_float {t : TypeId} {fuel : Nat} {cs : List Value} {x : DataW H × List MemPlace} {k : FloatKind} (ht : P.underlying t = some (.float k)) (h : DataW.trod enc P w base spare held fuel t cs = some x) : ∃ n, cs = [.float k n] ∧ x = (.lit (.float k n), []) ∧ (Lit.float k n).wf = true := by
  cases fuel with
  | zero => simp [DataW.trod] at h
  | succ n =>
    unfold DataW.trod at h
    rw [ht] at h
    split at h <;> simp_all
end

section
variable {H : Type} {enc : TypeId × Value → H}
theorem bulk_le {d : DataW H} {l : List (DataW H)} (h : d ∈ l) : Rows.uptoBulk d ≤ Rows.uptoBulkAll l := by
  induction l with
  | nil => cases h
  | cons x r ih =>
    simp only [Rows.uptoBulkAll]
    cases List.mem_cons.1 h with
    | inl e => subst e; omega
    | inr e => have := ih e; omega
theorem bulk_ge (l : List (DataW H)) : l.length ≤ Rows.uptoBulkAll l := by
  induction l with
  | nil => simp
  | cons x r ih =>
    have : 1 ≤ Rows.uptoBulk x := by
      cases x with
      | lit l => cases l <;> simp [Rows.uptoBulk]
      | _ => simp [Rows.uptoBulk]
    simp only [Rows.uptoBulkAll, List.length_cons]
    omega
theorem bulk_of {l : List (DataW H)} (hk : Rows.uptoSmall H l = true) : Rows.uptoBulkAll l ≤ 1048576 := of_decide_eq_true hk
theorem cells_item : Tryz.prog.cellsOf 40 = 6 := by kernel_rfl
/-- what an item that came in is: its fields, its list -/
structure Came (W : World) (x : It) (v : Value) (b : Nat) : Prop where
  all : ∀ (k : Nat) (bb : Bool) (n : Int) (f : Nat) (t : List UInt8) (ls : List It), x = .mk k bb n f t ls → InIt k n f t ∧ Row W W.heap.size v ls ∧ Tp.sz [x] ≤ 12 * b ∧ Tp.cnt [x] ≤ b
theorem sz_sum {α : Type} (X : Nat → It) (b : Nat → Nat) (n : Nat) (h : ∀ i, i < n → Tp.sz [X i] ≤ 12 * b i) : Tp.sz ((List.range n).map X) ≤ 12 * ((List.range n).map b).sum := by
  induction n with
  | zero => simp [Tp.sz]
  | succ n ih =>
    rw [List.range_succ, List.map_append, List.map_append, Tp.sz_append, List.sum_append]
    have h1 := ih (fun i hi => h i (by omega))
    have h2 := h n (by omega)
    simp only [List.map_cons, List.map_nil, List.sum_cons, List.sum_nil]
    omega
theorem cnt_append (l m : List It) : Tp.cnt (l ++ m) = Tp.cnt l + Tp.cnt m := by
  induction l with
  | nil => simp [Tp.cnt]
  | cons x l ih => obtain ⟨k, b, n, f, t, ls⟩ := x; simp only [List.cons_append, Tp.cnt, ih]; omega
theorem cnt_sum (X : Nat → It) (b : Nat → Nat) (n : Nat) (h : ∀ i, i < n → Tp.cnt [X i] ≤ b i) : Tp.cnt ((List.range n).map X) ≤ ((List.range n).map b).sum := by
  induction n with
  | zero => simp [Tp.cnt]
  | succ n ih =>
    rw [List.range_succ, List.map_append, List.map_append, cnt_append, List.sum_append]
    have h1 := ih (fun i hi => h i (by omega))
    have h2 := h n (by omega)
    simp only [List.map_cons, List.map_nil, List.sum_cons, List.sum_nil]
    omega
theorem bulk_sum (D : Nat → DataW H) (n : Nat) : Rows.uptoBulkAll ((List.range n).map D) = ((List.range n).map fun i => Rows.uptoBulk (D i)).sum := by
  have : ∀ l : List Nat, Rows.uptoBulkAll (l.map D) = (l.map fun i => Rows.uptoBulk (D i)).sum := by
    intro l
    induction l with
    | nil => rfl
    | cons x l ih => simp only [List.map_cons, Rows.uptoBulkAll, List.sum_cons, ih]
  exact this _

set_option maxHeartbeats 1000000 in
set_option maxRecDepth 100000 in
theorem items_at {W : World} : ∀ (N fuel : Nat) (v : Value) (y : DataW H × List MemPlace), Rows.uptoBulk y.1 ≤ N → Rows.uptoBulk y.1 ≤ 1048576 → DataW.trod enc Tryz.prog W 0 (fun _ => true) true fuel 22 [v] = some y →
    ∃ l, Row W W.heap.size v l ∧ Tp.sz l ≤ 12 * Rows.uptoBulk y.1 ∧ Tp.cnt l + 1 ≤ Rows.uptoBulk y.1 := by
  intro N
  induction N with
  | zero =>
    intro fuel v y hN hb h
    exfalso
    have : 1 ≤ Rows.uptoBulk y.1 := by
      cases y.1 with
      | lit l => cases l <;> simp [Rows.uptoBulk]
      | _ => simp [Rows.uptoBulk]
    omega
  | succ N ihN =>
    intro fuel v y hN hbd h
    rcases open_slice_fields Tryz.underlying22 Tryz.underlying40 (by kernel_rfl) cells_item h with ⟨hcs, hx⟩ | ⟨a, len, cap, m, D, Pl, hcs, _, hl, hm, hz, hx, hi⟩
    · simp at hcs
      subst hcs hx
      exact ⟨[], .nil none 0 (fun _ => rfl), by simp [Tp.sz], by simp [Tp.cnt, Rows.uptoBulk]⟩
    · simp at hcs
      subst hcs
      simp only [if_true] at hz
      subst hz hx
      simp only [Rows.uptoBulk] at hN hbd ⊢
      have hcap : m ≤ 1048576 := by
        have h1 := bulk_ge ((List.range len).map D)
        have h2 := bulk_ge ((List.range (m - len)).map fun j => D (len + j))
        simp at h1 h2
        omega
      have hkey : ∀ i, ∃ p : It × Value, i < len → (∃ (k : Nat) (bb : Bool) (n : Int) (f : Nat) (t : List UInt8) (ls : List It), p.1 = .mk k bb n f t ls ∧ InIt k n f t ∧ Row W W.heap.size p.2 ls ∧ Tp.sz [p.1] ≤ 12 * Rows.uptoBulk (D i) ∧ Tp.cnt [p.1] ≤ Rows.uptoBulk (D i) ∧ ∀ j u, (icells k bb n f t p.2)[j]? = some u → W.cell? (a.add (i * 6 + j)) = some u) := by
        intro i
        by_cases hil : i < len
        · obtain ⟨ys, n, hD, _, hyl, hff⟩ := hi i (by omega)
          have hbi : Rows.uptoBulk (D i) ≤ Rows.uptoBulkAll ((List.range len).map D) := bulk_le (List.mem_map.2 ⟨i, List.mem_range.2 hil, rfl⟩)
          obtain ⟨u0, y0, c0, e0, t0⟩ := hff 0 _ rfl
          obtain ⟨u1, y1, c1, e1, t1⟩ := hff 1 _ rfl
          obtain ⟨u2, y2, c2, e2, t2⟩ := hff 2 _ rfl
          obtain ⟨u3, y3, c3, e3, t3⟩ := hff 3 _ rfl
          obtain ⟨u4, y4, c4, e4, t4⟩ := hff 4 _ rfl
          obtain ⟨u5, y5, c5, e5, t5⟩ := hff 5 _ rfl
          obtain ⟨x0, hx0, z0, w0⟩ := DataW.trod_int Tryz.underlying37 t0
          obtain ⟨x1, hx1, z1⟩ := DataW.trod_bool Tryz.underlying4 t1
          obtain ⟨x2, hx2, z2, w2⟩ := DataW.trod_int Tryz.underlying2 t2
          obtain ⟨x3, hx3, z3, w3⟩ := trod_float Tryz.underlying38 t3
          obtain ⟨x4, hx4, z4, w4⟩ := DataW.trod_string Tryz.underlying9 t4
          simp at hx0 hx1 hx2 hx3 hx4
          subst hx0 hx1 hx2 hx3 hx4 z0 z1 z2 z3 z4
          simp [Lit.wf, IntKind.min, IntKind.max, IntKind.signed, IntKind.bits] at w0 w2
          have w3' : x3 < 18446744073709551616 := by simpa [Lit.wf] using w3
          have hys : ys = [(.lit (.int .u8 x0), []), (.lit (.bool x1), []), (.lit (.int .i64 x2), []), (.lit (.float .f64 x3), []), (.lit (.string x4.data.toList), []), y5] := by
            match ys, hyl, e0, e1, e2, e3, e4, e5 with
            | [_, _, _, _, _, _], _, e0, e1, e2, e3, e4, e5 => simp at e0 e1 e2 e3 e4 e5; subst e0 e1 e2 e3 e4 e5; rfl
          have hb5 : Rows.uptoBulk (D i) = x4.data.toList.length + Rows.uptoBulk y5.1 + 6 := by
            rw [hD, hys]
            simp only [List.map_cons, List.map_nil, Rows.uptoBulk, Rows.uptoBulkAll]
            omega
          obtain ⟨ls, hls, hsz, hcn⟩ := ihN n u5 y5 (by omega) (by omega) t5
          refine ⟨(.mk x0.toNat x1 x2 x3 x4.data.toList ls, u5), fun _ => ⟨x0.toNat, x1, x2, x3, x4.data.toList, ls, rfl, ⟨by omega, by omega, by omega, by unfold U64; omega, by omega⟩, hls, ?_, ?_, ?_⟩⟩
          · have hl1 : Tp.len1 x0.toNat x2 x4.data.toList ≤ 9 + 2 * x4.data.toList.length := by
              have h1 := Tp.nb_le x2.natAbs
              have h2 : x4.data.toList.count 0 ≤ x4.data.toList.length := List.count_le_length
              unfold Tp.len1
              repeat' split
              all_goals omega
            simp only [Tp.sz]
            omega
          · simp only [Tp.cnt]; omega
          · intro j u hu
            have hj : j < 6 := by
              have := (List.getElem?_eq_some_iff.1 hu).1
              simpa [icells] using this
            match j, hj with
            | 0, _ => simp [icells] at hu; subst hu; rw [show ((max x0 0 : Int)) = x0 by omega]; exact c0
            | 1, _ => simp [icells] at hu; subst hu; exact c1
            | 2, _ => simp [icells] at hu; subst hu; exact c2
            | 3, _ => simp [icells] at hu; subst hu; exact c3
            | 4, _ => simp [icells, S] at hu; subst hu; exact c4
            | 5, _ => simp [icells] at hu; subst hu; exact c5
        · exact ⟨(.mk 0 false 0 0 [] [], .nilIface), fun h => absurd h hil⟩
      obtain ⟨X, hX⟩ := Classical.axiomOfChoice hkey
      have hbs := bulk_sum D len
      have hszs := sz_sum (α := Unit) (fun i => (X i).1) (fun i => Rows.uptoBulk (D i)) len (fun i hi2 => by obtain ⟨k, bb, n, f, t, ls, e, h1, h2, h3, h4, h5⟩ := hX i hi2; exact h3)
      have hcns := cnt_sum (fun i => (X i).1) (fun i => Rows.uptoBulk (D i)) len (fun i hi2 => by obtain ⟨k, bb, n, f, t, ls, e, h1, h2, h3, h4, h5⟩ := hX i hi2; exact h4)
      rcases Nat.eq_zero_or_pos len with h0 | h0
      · subst h0
        exact ⟨[], .nil _ _ (fun h => by cases h), by simp [Tp.sz], by simp [Tp.cnt]⟩
      · obtain ⟨k0, bb0, n0, f0, t0, ls0, -, -, -, -, -, hc0⟩ := hX 0 h0
        obtain ⟨b, off, spot⟩ := a
        have h00 := hc0 0 _ rfl
        have hspot : spot = none := by simpa [Addr.add] using World.cell?_spot h00
        subst hspot
        have hadd : ∀ j, (⟨b, off, none⟩ : Addr).add j = ⟨b, off + j, none⟩ := fun j => by unfold Addr.add; split <;> simp_all
        have hblk : b < W.heap.size := by
          have := World.block_lt_of_cell? _ _ h00
          rw [hadd] at this
          exact this
        refine ⟨(List.range len).map fun i => (X i).1, ?_, by omega, by omega⟩
        have hlen : ((List.range len).map fun i => (X i).1).length = len := by simp
        have hrow := Row.mk (w := W) (B := W.heap.size) b off m ((List.range len).map fun i => (X i).1) ((List.range len).map fun i => (X i).2) hblk (by simp) (by rw [hlen]; exact hl) (by rw [hlen]; omega) ?_ ?_ ?_
        · rw [hlen] at hrow; exact hrow
        · intro k bb n f t ls hmem
          obtain ⟨i, hi2, e2⟩ := List.mem_map.1 hmem
          obtain ⟨k', bb', n', f', t', ls', e, h1, h2, h3, h4, h5⟩ := hX i (List.mem_range.1 hi2)
          rw [e] at e2
          injection e2 with q1 q2 q3 q4 q5 q6
          subst q1 q2 q3 q4 q5 q6
          exact h1
        · intro i k bb n f t ls v hx1 hx2 j u hu
          have hil : i < len := by have := (List.getElem?_eq_some_iff.1 hx1).1; simpa using this
          simp only [List.getElem?_map, List.getElem?_range hil, Option.map_some, Option.some.injEq] at hx1 hx2
          obtain ⟨k', bb', n', f', t', ls', e, h1, h2, h3, h4, h5⟩ := hX i hil
          rw [e] at hx1
          injection hx1 with q1 q2 q3 q4 q5 q6
          subst q1 q2 q3 q4 q5 q6 hx2
          have := h5 j u hu
          rw [hadd] at this
          rw [Nat.add_assoc]; exact this
        · intro i k bb n f t ls v hx1 hx2
          have hil : i < len := by have := (List.getElem?_eq_some_iff.1 hx1).1; simpa using this
          simp only [List.getElem?_map, List.getElem?_range hil, Option.map_some, Option.some.injEq] at hx1 hx2
          obtain ⟨k', bb', n', f', t', ls', e, h1, h2, h3, h4, h5⟩ := hX i hil
          rw [e] at hx1
          injection hx1 with q1 q2 q3 q4 q5 q6
          subst q1 q2 q3 q4 q5 q6 hx2
          exact h2
set_option maxRecDepth 100000 in
/-- a list of items that came in -/
theorem opens_items {W : World} {base : Nat} {v : Value} {d : DataW H} {p : List MemPlace} (hbd : Rows.uptoBulk d ≤ 1048576) (hval : Value.okWide Tryz.prog W .any base 22 v)
    (h : DataW.Trod enc Tryz.prog W 0 (fun _ => true) true 22 v d p) : ∃ l, Row W W.heap.size v l ∧ Tp.sz l ≤ 12582912 ∧ Tp.cnt l ≤ 1048576 := by
  obtain ⟨a0, len, cap, rfl⟩ := okWide_slice Tryz.underlying22 hval
  obtain ⟨fuel, hf⟩ := h
  obtain ⟨l, h1, h2, h3⟩ := items_at _ fuel _ _ (Nat.le_refl _) hbd hf
  exact ⟨l, h1, by dsimp only at h2; omega, by dsimp only at h3; omega⟩
theorem part_of {cs : List Value} {i n : Nat} {r : List Value} (h : (cs.drop i).take n = r) (hi : i + n ≤ cs.length) : cs.drop i = r ++ cs.drop (i + n) := by
  rw [← h, ← List.drop_drop, List.take_append_drop]
theorem cells_k : Tryz.prog.cellsOf 37 = 1 := by kernel_rfl
theorem cells_b : Tryz.prog.cellsOf 4 = 1 := by kernel_rfl
theorem cells_n : Tryz.prog.cellsOf 2 = 1 := by kernel_rfl
theorem cells_f : Tryz.prog.cellsOf 38 = 1 := by kernel_rfl
theorem cells_s : Tryz.prog.cellsOf 9 = 1 := by kernel_rfl
theorem cells_l : Tryz.prog.cellsOf 22 = 1 := by kernel_rfl
set_option maxRecDepth 100000 in
/-- an item that came in -/
theorem opens_item {W : World} {base : Nat} {v : Value} {d : DataW H} {p : List MemPlace} (hbd : Rows.uptoBulk d ≤ 1048576) (hval : Value.okWide Tryz.prog W .any base 40 v)
    (h : DataW.Trod enc Tryz.prog W 0 (fun _ => true) true 40 v d p) :
    ∃ (k : Nat) (b : Bool) (n : Int) (f : Nat) (t : List UInt8) (u : Value) (ls : List It), v = IV k b n f t u ∧ InIt k n f t ∧ Row W W.heap.size u ls ∧ Tp.sz [It.mk k b n f t ls] ≤ 12582912 ∧ Tp.cnt [It.mk k b n f t ls] ≤ 1048576 := by
  obtain ⟨cs, rfl, -⟩ := okWide_struct Tryz.underlying40 hval
  obtain ⟨L⟩ := cs
  obtain ⟨fuel, hf⟩ := h
  obtain ⟨ys, n, -, hy, hl, hyl, hff⟩ := DataW.trod_struct Tryz.underlying40 hf
  have h0 : DataW.trod enc Tryz.prog W 0 (fun _ => true) true n 37 ((L.drop 0).take (Tryz.prog.cellsOf 37)) = ys[0]? := hff 0 _ rfl
  have h1 : DataW.trod enc Tryz.prog W 0 (fun _ => true) true n 4 ((L.drop 1).take (Tryz.prog.cellsOf 4)) = ys[1]? := hff 1 _ rfl
  have h2 : DataW.trod enc Tryz.prog W 0 (fun _ => true) true n 2 ((L.drop 2).take (Tryz.prog.cellsOf 2)) = ys[2]? := hff 2 _ rfl
  have h3 : DataW.trod enc Tryz.prog W 0 (fun _ => true) true n 38 ((L.drop 3).take (Tryz.prog.cellsOf 38)) = ys[3]? := hff 3 _ rfl
  have h4 : DataW.trod enc Tryz.prog W 0 (fun _ => true) true n 9 ((L.drop 4).take (Tryz.prog.cellsOf 9)) = ys[4]? := hff 4 _ rfl
  have h5 : DataW.trod enc Tryz.prog W 0 (fun _ => true) true n 22 ((L.drop 5).take (Tryz.prog.cellsOf 22)) = ys[5]? := hff 5 _ rfl
  have hl : L.length = Tryz.prog.cellsOf 40 := hl
  rw [cells_k] at h0
  rw [cells_b] at h1
  rw [cells_n] at h2
  rw [cells_f] at h3
  rw [cells_s] at h4
  rw [cells_l] at h5
  rw [cells_item] at hl
  have hyl : ys.length = 6 := hyl
  match ys, hyl with
  | [y0, y1, y2, y3, y4, y5], _ =>
    match L, hl with
    | [u0, u1, u2, u3, u4, u5], _ =>
      obtain ⟨x0, hx0, z0, w0⟩ := DataW.trod_int Tryz.underlying37 h0
      obtain ⟨x1, hx1, z1⟩ := DataW.trod_bool Tryz.underlying4 h1
      obtain ⟨x2, hx2, z2, w2⟩ := DataW.trod_int Tryz.underlying2 h2
      obtain ⟨x3, hx3, z3, w3⟩ := trod_float Tryz.underlying38 h3
      obtain ⟨x4, hx4, z4, w4⟩ := DataW.trod_string Tryz.underlying9 h4
      simp at hx0 hx1 hx2 hx3 hx4
      subst hx0 hx1 hx2 hx3 hx4 z0 z1 z2 z3 z4
      simp [Lit.wf, IntKind.min, IntKind.max, IntKind.signed, IntKind.bits] at w0 w2
      have w3' : x3 < 18446744073709551616 := by simpa [Lit.wf] using w3
      simp only [Prod.mk.injEq] at hy
      obtain ⟨rfl, -⟩ := hy
      simp only [List.map_cons, List.map_nil, Rows.uptoBulk, Rows.uptoBulkAll] at hbd
      obtain ⟨ls, hls, hsz, hcn⟩ := items_at _ n u5 y5 (Nat.le_refl _) (by omega) h5
      have hl1 : Tp.len1 x0.toNat x2 x4.data.toList ≤ 9 + 2 * x4.data.toList.length := by
        have h1 := Tp.nb_le x2.natAbs
        have h2 : x4.data.toList.count 0 ≤ x4.data.toList.length := List.count_le_length
        unfold Tp.len1
        repeat' split
        all_goals omega
      have e0 : ((x0.toNat : Nat) : Int) = x0 := by omega
      refine ⟨x0.toNat, x1, x2, x3, x4.data.toList, u5, ls, ?_, ⟨by omega, by omega, by omega, by unfold U64; omega, by omega⟩, hls, by simp only [Tp.sz]; omega, by simp only [Tp.cnt]; omega⟩
      show Value.agg #[.int .u8 x0, .bool x1, .int .i64 x2, .float .f64 x3, .string x4, u5] = IV _ _ _ _ _ _
      unfold IV
      rw [e0]
end
end Go.Proofs.YtdicelibjpmglaaGreatDoor
