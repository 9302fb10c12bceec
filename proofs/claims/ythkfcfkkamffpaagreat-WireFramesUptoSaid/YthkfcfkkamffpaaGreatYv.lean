/-
  Layer 27: messages that came in. Printed by gen_yv.py.
-/
import Derived.Test.YthkfcfkkamffpaaGreatZa
import Derived.Test.YthkfcfkkamffpaaGreatOpen
import Derived.ChangeArms
import Derived.OpenShut
import Derived.Deep.Slices
namespace Go.Proofs.YthkfcfkkamffpaaGreat
open Go.ChangeShapes Go.WideShapes Go.ChangeAt Go.RowKit Go.Deep
set_option linter.unusedVariables false
set_option maxRecDepth 100000
open Wm (M)
section
variable {H : Type} {enc : TypeId × Value → H} {W : World} {fuel : Nat} {cs : List Value} {y : DataW H × List MemPlace}
theorem vint_cs {t : TypeId} (ht : Tryz.prog.underlying t = some (.int .i64)) (h : DataW.trod enc Tryz.prog W 0 (fun _ => true) true fuel t cs = some y) : ∃ a : Int, cs = [.int .i64 a] ∧ I64 a := by
  obtain ⟨x, hcs, _, hw⟩ := DataW.trod_int ht h
  simp [Lit.wf, IntKind.min, IntKind.max, IntKind.signed, IntKind.bits] at hw
  exact ⟨x, hcs, by unfold I64; omega⟩
theorem vu64_cs (h : DataW.trod enc Tryz.prog W 0 (fun _ => true) true fuel 25 cs = some y) : ∃ a : Nat, cs = [.int .u64 a] ∧ U64 a := by
  obtain ⟨x, hcs, _, hw⟩ := DataW.trod_int Tryz.underlying25 h
  simp [Lit.wf, IntKind.min, IntKind.max, IntKind.signed, IntKind.bits] at hw
  exact ⟨x.toNat, by rw [hcs]; congr 2; omega, by unfold U64; omega⟩
theorem vu32_cs (h : DataW.trod enc Tryz.prog W 0 (fun _ => true) true fuel 23 cs = some y) : ∃ a : Nat, cs = [.int .u32 a] ∧ a < 4294967296 := by
  obtain ⟨x, hcs, _, hw⟩ := DataW.trod_int Tryz.underlying23 h
  simp [Lit.wf, IntKind.min, IntKind.max, IntKind.signed, IntKind.bits] at hw
  exact ⟨x.toNat, by rw [hcs]; congr 2; omega, by omega⟩
theorem vu8_cs {t : TypeId} (ht : Tryz.prog.underlying t = some (.int .u8)) (h : DataW.trod enc Tryz.prog W 0 (fun _ => true) true fuel t cs = some y) : ∃ a : Nat, cs = [.int .u8 a] ∧ a < 256 := by
  obtain ⟨x, hcs, _, hw⟩ := DataW.trod_int ht h
  simp [Lit.wf, IntKind.min, IntKind.max, IntKind.signed, IntKind.bits] at hw
  exact ⟨x.toNat, by rw [hcs]; congr 2; omega, by omega⟩
theorem vbool_cs (h : DataW.trod enc Tryz.prog W 0 (fun _ => true) true fuel 4 cs = some y) : ∃ b : Bool, cs = [.bool b] := by
  obtain ⟨b, h1, _⟩ := DataW.trod_bool Tryz.underlying4 h
  exact ⟨b, h1⟩
theorem vstr_cs (h : DataW.trod enc Tryz.prog W 0 (fun _ => true) true fuel 9 cs = some y) : ∃ l : List UInt8, cs = [S l] ∧ l.length ≤ Rows.uptoBulk y.1 := by
  obtain ⟨s, hcs, hy, hs⟩ := DataW.trod_string Tryz.underlying9 h
  exact ⟨s.data.toList, hcs, by rw [hy]; simp [Rows.uptoBulk]⟩
theorem vpart_of {cs : List Value} {i n : Nat} {r : List Value} (h : (cs.drop i).take n = r) (hi : i + n ≤ cs.length) : cs.drop i = r ++ cs.drop (i + n) := by
  rw [← h, ← List.drop_drop, List.take_append_drop]
theorem vcellsD : Tryz.prog.cellsOf 27 = 32 := by kernel_rfl
theorem vcellsB : Tryz.prog.cellsOf 5 = 1 := by kernel_rfl
theorem vdig_cs (h : DataW.trod enc Tryz.prog W 0 (fun _ => true) true fuel 27 cs = some y) : ∃ d : List UInt8, cs = bys d ∧ d.length = 32 := by
  obtain ⟨ys, n, -, -, hl, hyl, hf⟩ := DataW.trod_array (n := 32) (e := 5) (show Tryz.prog.underlying 27 = some (.array 32 5) by kernel_rfl) h
  rw [vcellsD] at hl
  have key : ∀ k, k ≤ 32 → ∃ d : List UInt8, d.length = k ∧ cs.take k = bys d := by
    intro k
    induction k with
    | zero => intro _; exact ⟨[], rfl, by simp [bys]⟩
    | succ k ih =>
      intro hk
      obtain ⟨d, hd, hc⟩ := ih (by omega)
      have h1 := hf k (by omega)
      obtain ⟨z, e⟩ : ∃ z, ys[k]? = some z := ⟨_, List.getElem?_eq_getElem (by omega)⟩
      rw [e, vcellsB] at h1
      obtain ⟨b, hb, hlt⟩ := vu8_cs Tryz.underlying5 h1
      rw [Nat.mul_one] at hb
      refine ⟨d ++ [UInt8.ofNat b], by simp [hd], ?_⟩
      rw [bys_append, ← hc, List.take_add_one]
      congr 1
      have hb' : (cs.drop k)[0]? = some (.int .u8 b) := by
        have := congrArg (fun l => l[0]?) hb
        simpa using this
      rw [List.getElem?_drop, Nat.add_zero] at hb'
      rw [hb']
      simp [bys]
      omega
  obtain ⟨d, hd, hc⟩ := key 32 (by omega)
  exact ⟨d, by rw [← hc, List.take_of_length_le (by omega)], hd⟩
theorem vbulk_one (d : DataW H) : 1 ≤ Rows.uptoBulk d := by
  cases d with
  | lit l => cases l <;> simp [Rows.uptoBulk]
  | _ => simp [Rows.uptoBulk]
theorem vbulk_ge (l : List (DataW H)) : l.length ≤ Rows.uptoBulkAll l := by
  induction l with
  | nil => simp
  | cons x r ih =>
    have := vbulk_one x
    simp only [Rows.uptoBulkAll, List.length_cons]
    omega
/-- a list that came in, whatever its elements are -/
theorem vlist_at {α : Type} (f : α → List Value) (Q : α → Prop) {t e : TypeId} {size : Nat} (ht : Tryz.prog.underlying t = some (.slice e)) (hsz : Tryz.prog.cellsOf e = size) (hpos : 0 < size) (hfl : ∀ x, Q x → (f x).length = size)
    (helem : ∀ (fuel : Nat) (cs : List Value) (z : DataW H × List MemPlace), Rows.uptoBulk z.1 ≤ Rows.uptoBulk y.1 → DataW.trod enc Tryz.prog W 0 (fun _ => true) true fuel e cs = some z → ∃ x, cs = f x ∧ Q x)
    (h : DataW.trod enc Tryz.prog W 0 (fun _ => true) true fuel t cs = some y) : ∃ (l : List α) (v : Value), cs = [v] ∧ LR W size v l.length (l.flatMap f) ∧ (∀ x ∈ l, Q x) ∧ l.length ≤ Rows.uptoBulk y.1 := by
  rcases open_slice ht h with ⟨hcs, hx⟩ | ⟨a, len, cap, m, n, D, Pl, hcs, _, hl, hm, hz, hx, hi⟩
  · exact ⟨[], .slice none 0 0, hcs, ⟨none, 0, rfl, by simp, fun h => absurd h (Nat.lt_irrefl 0)⟩, fun x hx => by simp at hx, Nat.zero_le _⟩
  · simp only [if_true] at hz
    subst hz
    have hkey : ∀ i : Nat, i < len → ∃ x : α, Q x ∧ ∀ j u, (f x)[j]? = some u → W.cell? (a.add (i * size + j)) = some u := fun i hil => by
      obtain ⟨cs', hc, ht'⟩ := hi i (by omega)
      rw [hsz] at hc
      have hbi : Rows.uptoBulk (D i) ≤ Rows.uptoBulk y.1 := by
        rw [hx]
        have := bulk_part (List.mem_map.2 ⟨i, List.mem_range.2 hil, rfl⟩ : D i ∈ (List.range len).map D)
        simp only [Rows.uptoBulk]
        omega
      obtain ⟨x, hx, hq⟩ := helem n cs' _ hbi ht'
      obtain ⟨_, hcl, hat⟩ := World.cells?_some hc
      refine ⟨x, hq, fun j u hu => ?_⟩
      rw [← hx] at hu
      have hj : j < size := by have := (List.getElem?_eq_some_iff.1 hu).1; omega
      rw [← Go.Deep.add_add, hat j hj, hu]
    have hall : ∃ l : List α, l.length = len ∧ (∀ x ∈ l, Q x) ∧ ∀ (i : Nat) (x : α), l[i]? = some x → ∀ j u, (f x)[j]? = some u → W.cell? (a.add (i * size + j)) = some u := by
      clear hcs hl hm hx hi
      induction len with
      | zero => exact ⟨[], rfl, fun x hx => by simp at hx, fun i x hx => by simp at hx⟩
      | succ k ih =>
        obtain ⟨l, h1, h2, h3⟩ := ih (fun i hik => hkey i (by omega))
        obtain ⟨x, hq, hx⟩ := hkey k (by omega)
        refine ⟨l ++ [x], by simp [h1], fun z hz => ?_, fun i z hz => ?_⟩
        · rcases List.mem_append.1 hz with hz | hz
          · exact h2 z hz
          · rw [List.mem_singleton.1 hz]; exact hq
        · by_cases hil : i < l.length
          · rw [List.getElem?_append_left hil] at hz
            exact h3 i z hz
          · rw [List.getElem?_append_right (by omega)] at hz
            have : i - l.length = 0 := by
              have := (List.getElem?_eq_some_iff.1 hz).1
              simp at this
              omega
            rw [this] at hz
            simp at hz
            subst hz
            rw [show i = k by omega]
            exact hx
    obtain ⟨l, h1, h2, h3⟩ := hall
    have hfm : ∀ l : List α, (∀ x ∈ l, Q x) → (l.flatMap f).length = l.length * size := by
      intro l
      induction l with
      | nil => intro _; simp
      | cons x l ih => intro hq; rw [List.flatMap_cons, List.length_append, hfl x (hq x (by simp)), ih (fun z hz => hq z (by simp [hz])), List.length_cons, Nat.succ_mul]; omega
    have hbl : l.length ≤ Rows.uptoBulk y.1 := by
      rw [hx]
      have := vbulk_ge ((List.range len).map D)
      simp only [List.length_map, List.length_range] at this
      simp only [Rows.uptoBulk]
      omega
    refine ⟨l, .slice (some a) len m, hcs, ?_, h2, hbl⟩
    rw [h1]
    refine ⟨some a, m, rfl, by rw [hfm l h2, h1], fun hn => ?_⟩
    obtain ⟨b, off, spot⟩ := a
    obtain ⟨x0, hx0⟩ : ∃ x, l[0]? = some x := ⟨_, List.getElem?_eq_getElem (by omega)⟩
    have hq0 := h2 x0 (List.mem_of_getElem? hx0)
    obtain ⟨u0, hu0⟩ : ∃ u, (f x0)[0]? = some u := ⟨_, List.getElem?_eq_getElem (by rw [hfl x0 hq0]; omega)⟩
    have h00 := h3 0 x0 hx0 0 u0 hu0
    have hspot : spot = none := by simpa [Addr.add] using World.cell?_spot h00
    subst hspot
    have hadd : ∀ j, (⟨b, off, none⟩ : Addr).add j = ⟨b, off + j, none⟩ := fun j => by unfold Addr.add; split <;> simp_all
    refine ⟨b, off, rfl, fun j u hu => ?_⟩
    have hdiv : ∀ (l : List α) (i0 : Nat), (∀ x ∈ l, Q x) → (∀ (i : Nat) (x : α), l[i]? = some x → ∀ j u, (f x)[j]? = some u → W.cell? ⟨b, off + ((i0 + i) * size + j), none⟩ = some u) → ∀ j u, (l.flatMap f)[j]? = some u → W.cell? ⟨b, off + (i0 * size + j), none⟩ = some u := by
      intro l
      induction l with
      | nil => intro i0 _ _ j u hu; simp at hu
      | cons x l ih =>
        intro i0 hq hc j u hu
        rw [List.flatMap_cons] at hu
        have hxl := hfl x (hq x (by simp))
        by_cases hj : j < (f x).length
        · rw [List.getElem?_append_left hj] at hu
          have := hc 0 x rfl j u hu
          rwa [Nat.add_zero] at this
        · rw [List.getElem?_append_right (by omega)] at hu
          have := ih (i0 + 1) (fun z hz => hq z (by simp [hz])) (fun i z hz j u hu => by
            have := hc (i + 1) z (by simpa using hz) j u hu
            rw [show i0 + 1 + i = i0 + (i + 1) by omega]; exact this) (j - (f x).length) u hu
          rw [hxl] at this hj
          rw [Nat.succ_mul, show i0 * size + size + (j - size) = i0 * size + j by omega] at this
          exact this
    have := hdiv l 0 h2 (fun i x hx j u hu => by rw [Nat.zero_add, ← hadd]; exact h3 i x hx j u hu) j u hu
    rwa [Nat.zero_mul, Nat.zero_add] at this
theorem vc_vhead : Tryz.prog.cellsOf 29 = 33 := by kernel_rfl
set_option maxRecDepth 100000 in
theorem vhead_cs (h : DataW.trod enc Tryz.prog W 0 (fun _ => true) true fuel 29 cs = some y) : ∃ (n : Nat) (d : List UInt8), cs = .int .u64 n :: bys d ∧ U64 n ∧ d.length = 32 := by
  obtain ⟨ys, n, -, hy, hl, hyl, hf⟩ := DataW.trod_struct Tryz.underlying29 h
  have h0 : DataW.trod enc Tryz.prog W 0 (fun _ => true) true n 25 ((cs.drop 0).take (Tryz.prog.cellsOf 25)) = ys[0]? := hf 0 _ rfl
  have h1 : DataW.trod enc Tryz.prog W 0 (fun _ => true) true n 27 ((cs.drop 1).take (Tryz.prog.cellsOf 27)) = ys[1]? := hf 1 _ rfl
  obtain ⟨y0, e0⟩ : ∃ z, ys[0]? = some z := ⟨_, List.getElem?_eq_getElem (by rw [hyl]; decide)⟩
  rw [e0, show Tryz.prog.cellsOf 25 = 1 by kernel_rfl] at h0
  obtain ⟨a0, q0, w0⟩ := vu64_cs h0
  have b0 : Rows.uptoBulk y0.1 ≤ Rows.uptoBulk y.1 := by
    rw [hy]
    have := bulk_part (List.mem_map.2 ⟨_, List.mem_of_getElem? e0, rfl⟩ : y0.1 ∈ ys.map (·.1))
    simp only [Rows.uptoBulk]
    omega
  obtain ⟨y1, e1⟩ : ∃ z, ys[1]? = some z := ⟨_, List.getElem?_eq_getElem (by rw [hyl]; decide)⟩
  rw [e1, show Tryz.prog.cellsOf 27 = 32 by kernel_rfl] at h1
  obtain ⟨a1, q1, w1⟩ := vdig_cs h1
  have b1 : Rows.uptoBulk y1.1 ≤ Rows.uptoBulk y.1 := by
    rw [hy]
    have := bulk_part (List.mem_map.2 ⟨_, List.mem_of_getElem? e1, rfl⟩ : y1.1 ∈ ys.map (·.1))
    simp only [Rows.uptoBulk]
    omega
  rw [vc_vhead] at hl
  have p0 := vpart_of (i := 0) (n := 1) q0 (by omega)
  have p1 := vpart_of (i := 1) (n := 32) q1 (by omega)
  rw [List.drop_zero] at p0
  simp only [Nat.reduceAdd] at p0 p1
  have hcs : cs = [.int .u64 a0] ++ (bys a1 ++ []) := by
    rw [p0, p1, List.drop_eq_nil_of_le (by omega)]
  exact ⟨a0, a1, by rw [hcs]; simp, w0, w1⟩
theorem vc_ventry : Tryz.prog.cellsOf 31 = 35 := by kernel_rfl
set_option maxRecDepth 100000 in
theorem ventry_cs (h : DataW.trod enc Tryz.prog W 0 (fun _ => true) true fuel 31 cs = some y) : ∃ (v : Nat) (d : List UInt8) (c : Nat) (t : List UInt8), cs = .int .u64 v :: (bys d ++ [.int .u64 c, S t]) ∧ U64 v ∧ d.length = 32 ∧ U64 c ∧ t.length ≤ Rows.uptoBulk y.1 := by
  obtain ⟨ys, n, -, hy, hl, hyl, hf⟩ := DataW.trod_struct Tryz.underlying31 h
  have h0 : DataW.trod enc Tryz.prog W 0 (fun _ => true) true n 25 ((cs.drop 0).take (Tryz.prog.cellsOf 25)) = ys[0]? := hf 0 _ rfl
  have h1 : DataW.trod enc Tryz.prog W 0 (fun _ => true) true n 27 ((cs.drop 1).take (Tryz.prog.cellsOf 27)) = ys[1]? := hf 1 _ rfl
  have h2 : DataW.trod enc Tryz.prog W 0 (fun _ => true) true n 25 ((cs.drop 33).take (Tryz.prog.cellsOf 25)) = ys[2]? := hf 2 _ rfl
  have h3 : DataW.trod enc Tryz.prog W 0 (fun _ => true) true n 9 ((cs.drop 34).take (Tryz.prog.cellsOf 9)) = ys[3]? := hf 3 _ rfl
  obtain ⟨y0, e0⟩ : ∃ z, ys[0]? = some z := ⟨_, List.getElem?_eq_getElem (by rw [hyl]; decide)⟩
  rw [e0, show Tryz.prog.cellsOf 25 = 1 by kernel_rfl] at h0
  obtain ⟨a0, q0, w0⟩ := vu64_cs h0
  have b0 : Rows.uptoBulk y0.1 ≤ Rows.uptoBulk y.1 := by
    rw [hy]
    have := bulk_part (List.mem_map.2 ⟨_, List.mem_of_getElem? e0, rfl⟩ : y0.1 ∈ ys.map (·.1))
    simp only [Rows.uptoBulk]
    omega
  obtain ⟨y1, e1⟩ : ∃ z, ys[1]? = some z := ⟨_, List.getElem?_eq_getElem (by rw [hyl]; decide)⟩
  rw [e1, show Tryz.prog.cellsOf 27 = 32 by kernel_rfl] at h1
  obtain ⟨a1, q1, w1⟩ := vdig_cs h1
  have b1 : Rows.uptoBulk y1.1 ≤ Rows.uptoBulk y.1 := by
    rw [hy]
    have := bulk_part (List.mem_map.2 ⟨_, List.mem_of_getElem? e1, rfl⟩ : y1.1 ∈ ys.map (·.1))
    simp only [Rows.uptoBulk]
    omega
  obtain ⟨y2, e2⟩ : ∃ z, ys[2]? = some z := ⟨_, List.getElem?_eq_getElem (by rw [hyl]; decide)⟩
  rw [e2, show Tryz.prog.cellsOf 25 = 1 by kernel_rfl] at h2
  obtain ⟨a2, q2, w2⟩ := vu64_cs h2
  have b2 : Rows.uptoBulk y2.1 ≤ Rows.uptoBulk y.1 := by
    rw [hy]
    have := bulk_part (List.mem_map.2 ⟨_, List.mem_of_getElem? e2, rfl⟩ : y2.1 ∈ ys.map (·.1))
    simp only [Rows.uptoBulk]
    omega
  obtain ⟨y3, e3⟩ : ∃ z, ys[3]? = some z := ⟨_, List.getElem?_eq_getElem (by rw [hyl]; decide)⟩
  rw [e3, show Tryz.prog.cellsOf 9 = 1 by kernel_rfl] at h3
  obtain ⟨a3, q3, w3⟩ := vstr_cs h3
  have b3 : Rows.uptoBulk y3.1 ≤ Rows.uptoBulk y.1 := by
    rw [hy]
    have := bulk_part (List.mem_map.2 ⟨_, List.mem_of_getElem? e3, rfl⟩ : y3.1 ∈ ys.map (·.1))
    simp only [Rows.uptoBulk]
    omega
  rw [vc_ventry] at hl
  have p0 := vpart_of (i := 0) (n := 1) q0 (by omega)
  have p1 := vpart_of (i := 1) (n := 32) q1 (by omega)
  have p2 := vpart_of (i := 33) (n := 1) q2 (by omega)
  have p3 := vpart_of (i := 34) (n := 1) q3 (by omega)
  rw [List.drop_zero] at p0
  simp only [Nat.reduceAdd] at p0 p1 p2 p3
  have hcs : cs = [.int .u64 a0] ++ (bys a1 ++ ([.int .u64 a2] ++ ([S a3] ++ []))) := by
    rw [p0, p1, p2, p3, List.drop_eq_nil_of_le (by omega)]
  exact ⟨a0, a1, a2, a3, by rw [hcs]; simp, w0, w1, w2, Nat.le_trans w3 b3⟩
theorem vc_vpair : Tryz.prog.cellsOf 75 = 2 := by kernel_rfl
set_option maxRecDepth 100000 in
theorem vpair_cs (h : DataW.trod enc Tryz.prog W 0 (fun _ => true) true fuel 75 cs = some y) : ∃ p : List UInt8 × List UInt8, cs = [S p.1, S p.2] ∧ True := by
  obtain ⟨ys, n, -, hy, hl, hyl, hf⟩ := DataW.trod_struct Tryz.underlying75 h
  have h0 : DataW.trod enc Tryz.prog W 0 (fun _ => true) true n 9 ((cs.drop 0).take (Tryz.prog.cellsOf 9)) = ys[0]? := hf 0 _ rfl
  have h1 : DataW.trod enc Tryz.prog W 0 (fun _ => true) true n 9 ((cs.drop 1).take (Tryz.prog.cellsOf 9)) = ys[1]? := hf 1 _ rfl
  obtain ⟨y0, e0⟩ : ∃ z, ys[0]? = some z := ⟨_, List.getElem?_eq_getElem (by rw [hyl]; decide)⟩
  rw [e0, show Tryz.prog.cellsOf 9 = 1 by kernel_rfl] at h0
  obtain ⟨a0, q0, w0⟩ := vstr_cs h0
  have b0 : Rows.uptoBulk y0.1 ≤ Rows.uptoBulk y.1 := by
    rw [hy]
    have := bulk_part (List.mem_map.2 ⟨_, List.mem_of_getElem? e0, rfl⟩ : y0.1 ∈ ys.map (·.1))
    simp only [Rows.uptoBulk]
    omega
  obtain ⟨y1, e1⟩ : ∃ z, ys[1]? = some z := ⟨_, List.getElem?_eq_getElem (by rw [hyl]; decide)⟩
  rw [e1, show Tryz.prog.cellsOf 9 = 1 by kernel_rfl] at h1
  obtain ⟨a1, q1, w1⟩ := vstr_cs h1
  have b1 : Rows.uptoBulk y1.1 ≤ Rows.uptoBulk y.1 := by
    rw [hy]
    have := bulk_part (List.mem_map.2 ⟨_, List.mem_of_getElem? e1, rfl⟩ : y1.1 ∈ ys.map (·.1))
    simp only [Rows.uptoBulk]
    omega
  rw [vc_vpair] at hl
  have p0 := vpart_of (i := 0) (n := 1) q0 (by omega)
  have p1 := vpart_of (i := 1) (n := 1) q1 (by omega)
  rw [List.drop_zero] at p0
  simp only [Nat.reduceAdd] at p0 p1
  have hcs : cs = [S a0] ++ ([S a1] ++ []) := by
    rw [p0, p1, List.drop_eq_nil_of_le (by omega)]
  exact ⟨(a0, a1), by rw [hcs]; simp, trivial⟩
theorem vc_vmsg : Tryz.prog.cellsOf 36 = 84 := by kernel_rfl
set_option maxRecDepth 100000 in
theorem vmsg_cs (h : DataW.trod enc Tryz.prog W 0 (fun _ => true) true fuel 36 cs = some y) : Rows.uptoBulk y.1 ≤ 1048576 → ∃ (m : M) (L : Ls), cs = mc m L ∧ Nm m ∧ IsL W m L := by
  obtain ⟨ys, n, -, hy, hl, hyl, hf⟩ := DataW.trod_struct Tryz.underlying36 h
  have h0 : DataW.trod enc Tryz.prog W 0 (fun _ => true) true n 22 ((cs.drop 0).take (Tryz.prog.cellsOf 22)) = ys[0]? := hf 0 _ rfl
  have h1 : DataW.trod enc Tryz.prog W 0 (fun _ => true) true n 23 ((cs.drop 1).take (Tryz.prog.cellsOf 23)) = ys[1]? := hf 1 _ rfl
  have h2 : DataW.trod enc Tryz.prog W 0 (fun _ => true) true n 24 ((cs.drop 2).take (Tryz.prog.cellsOf 24)) = ys[2]? := hf 2 _ rfl
  have h3 : DataW.trod enc Tryz.prog W 0 (fun _ => true) true n 9 ((cs.drop 3).take (Tryz.prog.cellsOf 9)) = ys[3]? := hf 3 _ rfl
  have h4 : DataW.trod enc Tryz.prog W 0 (fun _ => true) true n 9 ((cs.drop 4).take (Tryz.prog.cellsOf 9)) = ys[4]? := hf 4 _ rfl
  have h5 : DataW.trod enc Tryz.prog W 0 (fun _ => true) true n 9 ((cs.drop 5).take (Tryz.prog.cellsOf 9)) = ys[5]? := hf 5 _ rfl
  have h6 : DataW.trod enc Tryz.prog W 0 (fun _ => true) true n 3 ((cs.drop 6).take (Tryz.prog.cellsOf 3)) = ys[6]? := hf 6 _ rfl
  have h7 : DataW.trod enc Tryz.prog W 0 (fun _ => true) true n 25 ((cs.drop 7).take (Tryz.prog.cellsOf 25)) = ys[7]? := hf 7 _ rfl
  have h8 : DataW.trod enc Tryz.prog W 0 (fun _ => true) true n 25 ((cs.drop 8).take (Tryz.prog.cellsOf 25)) = ys[8]? := hf 8 _ rfl
  have h9 : DataW.trod enc Tryz.prog W 0 (fun _ => true) true n 4 ((cs.drop 9).take (Tryz.prog.cellsOf 4)) = ys[9]? := hf 9 _ rfl
  have h10 : DataW.trod enc Tryz.prog W 0 (fun _ => true) true n 4 ((cs.drop 10).take (Tryz.prog.cellsOf 4)) = ys[10]? := hf 10 _ rfl
  have h11 : DataW.trod enc Tryz.prog W 0 (fun _ => true) true n 29 ((cs.drop 11).take (Tryz.prog.cellsOf 29)) = ys[11]? := hf 11 _ rfl
  have h12 : DataW.trod enc Tryz.prog W 0 (fun _ => true) true n 31 ((cs.drop 44).take (Tryz.prog.cellsOf 31)) = ys[12]? := hf 12 _ rfl
  have h13 : DataW.trod enc Tryz.prog W 0 (fun _ => true) true n 32 ((cs.drop 79).take (Tryz.prog.cellsOf 32)) = ys[13]? := hf 13 _ rfl
  have h14 : DataW.trod enc Tryz.prog W 0 (fun _ => true) true n 32 ((cs.drop 80).take (Tryz.prog.cellsOf 32)) = ys[14]? := hf 14 _ rfl
  have h15 : DataW.trod enc Tryz.prog W 0 (fun _ => true) true n 33 ((cs.drop 81).take (Tryz.prog.cellsOf 33)) = ys[15]? := hf 15 _ rfl
  have h16 : DataW.trod enc Tryz.prog W 0 (fun _ => true) true n 34 ((cs.drop 82).take (Tryz.prog.cellsOf 34)) = ys[16]? := hf 16 _ rfl
  have h17 : DataW.trod enc Tryz.prog W 0 (fun _ => true) true n 9 ((cs.drop 83).take (Tryz.prog.cellsOf 9)) = ys[17]? := hf 17 _ rfl
  obtain ⟨y0, e0⟩ : ∃ z, ys[0]? = some z := ⟨_, List.getElem?_eq_getElem (by rw [hyl]; decide)⟩
  rw [e0, show Tryz.prog.cellsOf 22 = 1 by kernel_rfl] at h0
  obtain ⟨a0, q0, w0⟩ := vu8_cs Tryz.underlying22 h0
  have b0 : Rows.uptoBulk y0.1 ≤ Rows.uptoBulk y.1 := by
    rw [hy]
    have := bulk_part (List.mem_map.2 ⟨_, List.mem_of_getElem? e0, rfl⟩ : y0.1 ∈ ys.map (·.1))
    simp only [Rows.uptoBulk]
    omega
  obtain ⟨y1, e1⟩ : ∃ z, ys[1]? = some z := ⟨_, List.getElem?_eq_getElem (by rw [hyl]; decide)⟩
  rw [e1, show Tryz.prog.cellsOf 23 = 1 by kernel_rfl] at h1
  obtain ⟨a1, q1, w1⟩ := vu32_cs h1
  have b1 : Rows.uptoBulk y1.1 ≤ Rows.uptoBulk y.1 := by
    rw [hy]
    have := bulk_part (List.mem_map.2 ⟨_, List.mem_of_getElem? e1, rfl⟩ : y1.1 ∈ ys.map (·.1))
    simp only [Rows.uptoBulk]
    omega
  obtain ⟨y2, e2⟩ : ∃ z, ys[2]? = some z := ⟨_, List.getElem?_eq_getElem (by rw [hyl]; decide)⟩
  rw [e2, show Tryz.prog.cellsOf 24 = 1 by kernel_rfl] at h2
  obtain ⟨a2, q2, w2⟩ := vint_cs Tryz.underlying24 h2
  have b2 : Rows.uptoBulk y2.1 ≤ Rows.uptoBulk y.1 := by
    rw [hy]
    have := bulk_part (List.mem_map.2 ⟨_, List.mem_of_getElem? e2, rfl⟩ : y2.1 ∈ ys.map (·.1))
    simp only [Rows.uptoBulk]
    omega
  obtain ⟨y3, e3⟩ : ∃ z, ys[3]? = some z := ⟨_, List.getElem?_eq_getElem (by rw [hyl]; decide)⟩
  rw [e3, show Tryz.prog.cellsOf 9 = 1 by kernel_rfl] at h3
  obtain ⟨a3, q3, w3⟩ := vstr_cs h3
  have b3 : Rows.uptoBulk y3.1 ≤ Rows.uptoBulk y.1 := by
    rw [hy]
    have := bulk_part (List.mem_map.2 ⟨_, List.mem_of_getElem? e3, rfl⟩ : y3.1 ∈ ys.map (·.1))
    simp only [Rows.uptoBulk]
    omega
  obtain ⟨y4, e4⟩ : ∃ z, ys[4]? = some z := ⟨_, List.getElem?_eq_getElem (by rw [hyl]; decide)⟩
  rw [e4, show Tryz.prog.cellsOf 9 = 1 by kernel_rfl] at h4
  obtain ⟨a4, q4, w4⟩ := vstr_cs h4
  have b4 : Rows.uptoBulk y4.1 ≤ Rows.uptoBulk y.1 := by
    rw [hy]
    have := bulk_part (List.mem_map.2 ⟨_, List.mem_of_getElem? e4, rfl⟩ : y4.1 ∈ ys.map (·.1))
    simp only [Rows.uptoBulk]
    omega
  obtain ⟨y5, e5⟩ : ∃ z, ys[5]? = some z := ⟨_, List.getElem?_eq_getElem (by rw [hyl]; decide)⟩
  rw [e5, show Tryz.prog.cellsOf 9 = 1 by kernel_rfl] at h5
  obtain ⟨a5, q5, w5⟩ := vstr_cs h5
  have b5 : Rows.uptoBulk y5.1 ≤ Rows.uptoBulk y.1 := by
    rw [hy]
    have := bulk_part (List.mem_map.2 ⟨_, List.mem_of_getElem? e5, rfl⟩ : y5.1 ∈ ys.map (·.1))
    simp only [Rows.uptoBulk]
    omega
  obtain ⟨y6, e6⟩ : ∃ z, ys[6]? = some z := ⟨_, List.getElem?_eq_getElem (by rw [hyl]; decide)⟩
  rw [e6, show Tryz.prog.cellsOf 3 = 1 by kernel_rfl] at h6
  obtain ⟨a6, q6, w6⟩ := vint_cs Tryz.underlying3 h6
  have b6 : Rows.uptoBulk y6.1 ≤ Rows.uptoBulk y.1 := by
    rw [hy]
    have := bulk_part (List.mem_map.2 ⟨_, List.mem_of_getElem? e6, rfl⟩ : y6.1 ∈ ys.map (·.1))
    simp only [Rows.uptoBulk]
    omega
  obtain ⟨y7, e7⟩ : ∃ z, ys[7]? = some z := ⟨_, List.getElem?_eq_getElem (by rw [hyl]; decide)⟩
  rw [e7, show Tryz.prog.cellsOf 25 = 1 by kernel_rfl] at h7
  obtain ⟨a7, q7, w7⟩ := vu64_cs h7
  have b7 : Rows.uptoBulk y7.1 ≤ Rows.uptoBulk y.1 := by
    rw [hy]
    have := bulk_part (List.mem_map.2 ⟨_, List.mem_of_getElem? e7, rfl⟩ : y7.1 ∈ ys.map (·.1))
    simp only [Rows.uptoBulk]
    omega
  obtain ⟨y8, e8⟩ : ∃ z, ys[8]? = some z := ⟨_, List.getElem?_eq_getElem (by rw [hyl]; decide)⟩
  rw [e8, show Tryz.prog.cellsOf 25 = 1 by kernel_rfl] at h8
  obtain ⟨a8, q8, w8⟩ := vu64_cs h8
  have b8 : Rows.uptoBulk y8.1 ≤ Rows.uptoBulk y.1 := by
    rw [hy]
    have := bulk_part (List.mem_map.2 ⟨_, List.mem_of_getElem? e8, rfl⟩ : y8.1 ∈ ys.map (·.1))
    simp only [Rows.uptoBulk]
    omega
  obtain ⟨y9, e9⟩ : ∃ z, ys[9]? = some z := ⟨_, List.getElem?_eq_getElem (by rw [hyl]; decide)⟩
  rw [e9, show Tryz.prog.cellsOf 4 = 1 by kernel_rfl] at h9
  obtain ⟨a9, q9⟩ := vbool_cs h9
  have b9 : Rows.uptoBulk y9.1 ≤ Rows.uptoBulk y.1 := by
    rw [hy]
    have := bulk_part (List.mem_map.2 ⟨_, List.mem_of_getElem? e9, rfl⟩ : y9.1 ∈ ys.map (·.1))
    simp only [Rows.uptoBulk]
    omega
  obtain ⟨y10, e10⟩ : ∃ z, ys[10]? = some z := ⟨_, List.getElem?_eq_getElem (by rw [hyl]; decide)⟩
  rw [e10, show Tryz.prog.cellsOf 4 = 1 by kernel_rfl] at h10
  obtain ⟨a10, q10⟩ := vbool_cs h10
  have b10 : Rows.uptoBulk y10.1 ≤ Rows.uptoBulk y.1 := by
    rw [hy]
    have := bulk_part (List.mem_map.2 ⟨_, List.mem_of_getElem? e10, rfl⟩ : y10.1 ∈ ys.map (·.1))
    simp only [Rows.uptoBulk]
    omega
  obtain ⟨y11, e11⟩ : ∃ z, ys[11]? = some z := ⟨_, List.getElem?_eq_getElem (by rw [hyl]; decide)⟩
  rw [e11, show Tryz.prog.cellsOf 29 = 33 by kernel_rfl] at h11
  obtain ⟨a11, c11, q11, w11, x11⟩ := vhead_cs h11
  have b11 : Rows.uptoBulk y11.1 ≤ Rows.uptoBulk y.1 := by
    rw [hy]
    have := bulk_part (List.mem_map.2 ⟨_, List.mem_of_getElem? e11, rfl⟩ : y11.1 ∈ ys.map (·.1))
    simp only [Rows.uptoBulk]
    omega
  obtain ⟨y12, e12⟩ : ∃ z, ys[12]? = some z := ⟨_, List.getElem?_eq_getElem (by rw [hyl]; decide)⟩
  rw [e12, show Tryz.prog.cellsOf 31 = 35 by kernel_rfl] at h12
  obtain ⟨a12, c12, d12, n12, q12, w12, x12, z12, k12⟩ := ventry_cs h12
  have b12 : Rows.uptoBulk y12.1 ≤ Rows.uptoBulk y.1 := by
    rw [hy]
    have := bulk_part (List.mem_map.2 ⟨_, List.mem_of_getElem? e12, rfl⟩ : y12.1 ∈ ys.map (·.1))
    simp only [Rows.uptoBulk]
    omega
  obtain ⟨y13, e13⟩ : ∃ z, ys[13]? = some z := ⟨_, List.getElem?_eq_getElem (by rw [hyl]; decide)⟩
  rw [e13, show Tryz.prog.cellsOf 32 = 1 by kernel_rfl] at h13
  obtain ⟨a13, v13, q13, r13, x13, z13⟩ := vlist_at (fun x => bys x) (fun x => x.length = 32) Tryz.underlying32 vcellsD (by decide) (fun x hx => by rw [bys_length]; exact hx) (fun _ _ _ _ h => vdig_cs h) h13
  have b13 : Rows.uptoBulk y13.1 ≤ Rows.uptoBulk y.1 := by
    rw [hy]
    have := bulk_part (List.mem_map.2 ⟨_, List.mem_of_getElem? e13, rfl⟩ : y13.1 ∈ ys.map (·.1))
    simp only [Rows.uptoBulk]
    omega
  obtain ⟨y14, e14⟩ : ∃ z, ys[14]? = some z := ⟨_, List.getElem?_eq_getElem (by rw [hyl]; decide)⟩
  rw [e14, show Tryz.prog.cellsOf 32 = 1 by kernel_rfl] at h14
  obtain ⟨a14, v14, q14, r14, x14, z14⟩ := vlist_at (fun x => bys x) (fun x => x.length = 32) Tryz.underlying32 vcellsD (by decide) (fun x hx => by rw [bys_length]; exact hx) (fun _ _ _ _ h => vdig_cs h) h14
  have b14 : Rows.uptoBulk y14.1 ≤ Rows.uptoBulk y.1 := by
    rw [hy]
    have := bulk_part (List.mem_map.2 ⟨_, List.mem_of_getElem? e14, rfl⟩ : y14.1 ∈ ys.map (·.1))
    simp only [Rows.uptoBulk]
    omega
  obtain ⟨y15, e15⟩ : ∃ z, ys[15]? = some z := ⟨_, List.getElem?_eq_getElem (by rw [hyl]; decide)⟩
  rw [e15, show Tryz.prog.cellsOf 33 = 1 by kernel_rfl] at h15
  obtain ⟨a15, v15, q15, r15, x15, z15⟩ := vlist_at (fun x : List UInt8 × List UInt8 => [S x.1, S x.2]) (fun _ => True) Tryz.underlying33 vc_vpair (by decide) (fun _ _ => rfl) (fun _ _ _ _ h => vpair_cs h) h15
  have b15 : Rows.uptoBulk y15.1 ≤ Rows.uptoBulk y.1 := by
    rw [hy]
    have := bulk_part (List.mem_map.2 ⟨_, List.mem_of_getElem? e15, rfl⟩ : y15.1 ∈ ys.map (·.1))
    simp only [Rows.uptoBulk]
    omega
  obtain ⟨y16, e16⟩ : ∃ z, ys[16]? = some z := ⟨_, List.getElem?_eq_getElem (by rw [hyl]; decide)⟩
  rw [e16, show Tryz.prog.cellsOf 34 = 1 by kernel_rfl] at h16
  obtain ⟨a16, v16, q16, r16, x16, z16⟩ := vlist_at (fun x : Int => [.int .i64 x]) I64 Tryz.underlying34 (show Tryz.prog.cellsOf 3 = 1 by kernel_rfl) (by decide) (fun _ _ => rfl) (fun _ _ _ _ h => vint_cs Tryz.underlying3 h) h16
  have b16 : Rows.uptoBulk y16.1 ≤ Rows.uptoBulk y.1 := by
    rw [hy]
    have := bulk_part (List.mem_map.2 ⟨_, List.mem_of_getElem? e16, rfl⟩ : y16.1 ∈ ys.map (·.1))
    simp only [Rows.uptoBulk]
    omega
  obtain ⟨y17, e17⟩ : ∃ z, ys[17]? = some z := ⟨_, List.getElem?_eq_getElem (by rw [hyl]; decide)⟩
  rw [e17, show Tryz.prog.cellsOf 9 = 1 by kernel_rfl] at h17
  obtain ⟨a17, q17, w17⟩ := vstr_cs h17
  have b17 : Rows.uptoBulk y17.1 ≤ Rows.uptoBulk y.1 := by
    rw [hy]
    have := bulk_part (List.mem_map.2 ⟨_, List.mem_of_getElem? e17, rfl⟩ : y17.1 ∈ ys.map (·.1))
    simp only [Rows.uptoBulk]
    omega
  rw [vc_vmsg] at hl
  have p0 := vpart_of (i := 0) (n := 1) q0 (by omega)
  have p1 := vpart_of (i := 1) (n := 1) q1 (by omega)
  have p2 := vpart_of (i := 2) (n := 1) q2 (by omega)
  have p3 := vpart_of (i := 3) (n := 1) q3 (by omega)
  have p4 := vpart_of (i := 4) (n := 1) q4 (by omega)
  have p5 := vpart_of (i := 5) (n := 1) q5 (by omega)
  have p6 := vpart_of (i := 6) (n := 1) q6 (by omega)
  have p7 := vpart_of (i := 7) (n := 1) q7 (by omega)
  have p8 := vpart_of (i := 8) (n := 1) q8 (by omega)
  have p9 := vpart_of (i := 9) (n := 1) q9 (by omega)
  have p10 := vpart_of (i := 10) (n := 1) q10 (by omega)
  have p11 := vpart_of (i := 11) (n := 33) q11 (by omega)
  have p12 := vpart_of (i := 44) (n := 35) q12 (by omega)
  have p13 := vpart_of (i := 79) (n := 1) q13 (by omega)
  have p14 := vpart_of (i := 80) (n := 1) q14 (by omega)
  have p15 := vpart_of (i := 81) (n := 1) q15 (by omega)
  have p16 := vpart_of (i := 82) (n := 1) q16 (by omega)
  have p17 := vpart_of (i := 83) (n := 1) q17 (by omega)
  rw [List.drop_zero] at p0
  simp only [Nat.reduceAdd] at p0 p1 p2 p3 p4 p5 p6 p7 p8 p9 p10 p11 p12 p13 p14 p15 p16 p17
  have hcs : cs = [.int .u8 a0] ++ ([.int .u32 a1] ++ ([.int .i64 a2] ++ ([S a3] ++ ([S a4] ++ ([S a5] ++ ([.int .i64 a6] ++ ([.int .u64 a7] ++ ([.int .u64 a8] ++ ([.bool a9] ++ ([.bool a10] ++ ((.int .u64 a11 :: bys c11) ++ ((.int .u64 a12 :: (bys c12 ++ [.int .u64 d12, S n12])) ++ ([v13] ++ ([v14] ++ ([v15] ++ ([v16] ++ ([S a17] ++ []))))))))))))))))) := by
    rw [p0, p1, p2, p3, p4, p5, p6, p7, p8, p9, p10, p11, p12, p13, p14, p15, p16, p17, List.drop_eq_nil_of_le (by omega)]
  intro hb
  refine ⟨⟨a0, a1, a2, a3, a4, a5, a6, a7, a8, a9, a10, a11, c11, a12, d12, c12, n12, a13, a14, a15, a16, a17⟩, ⟨v13, v14, v15, v16⟩, ?_, ?_, ⟨r13, r14, r15, r16⟩⟩
  · rw [hcs]
    simp [mc, tailC]
  · exact ⟨⟨x11, x12⟩, w0, w1, w2, w6, w7, w8, w11, w12, z12, x13, x14, x16, by dsimp only; omega, by dsimp only; omega, by dsimp only; omega, by dsimp only; omega, by dsimp only; omega⟩
end
section
variable {H : Type} {enc : TypeId × Value → H} {W : World}
/-- a message that came in -/
theorem opens_msg {base : Nat} {v : Value} {d : DataW H} {p : List MemPlace} (hb : Rows.uptoBulk d ≤ 1048576) (hval : Value.okWide Tryz.prog W .any base 36 v)
    (h : DataW.Trod enc Tryz.prog W 0 (fun _ => true) true 36 v d p) : ∃ (m : M) (L : Ls), v = .agg (mcells m L) ∧ Nm m ∧ IsL W m L := by
  obtain ⟨cs, rfl, -⟩ := okWide_struct Tryz.underlying36 hval
  obtain ⟨fuel, hf⟩ := h
  obtain ⟨m, L, hc, h1, h2⟩ := vmsg_cs hf hb
  exact ⟨m, L, by rw [show cs = (cs.toList).toArray by simp, show cs.toList = _ from hc]; rfl, h1, h2⟩
/-- messages that came in -/
theorem opens_msgs {base : Nat} {v : Value} {d : DataW H} {p : List MemPlace} (hb : Rows.uptoBulk d ≤ 1048576) (hval : Value.okWide Tryz.prog W .any base 47 v)
    (h : DataW.Trod enc Tryz.prog W 0 (fun _ => true) true 47 v d p) : ∃ (X : List (M × Ls)), LR W 84 v X.length (X.flatMap fun x => mc x.1 x.2) ∧ (∀ x ∈ X, Nm x.1 ∧ IsL W x.1 x.2) ∧ X.length ≤ 1048576 := by
  obtain ⟨a0, len, cap, rfl⟩ := okWide_slice Tryz.underlying47 hval
  obtain ⟨fuel, hf⟩ := h
  obtain ⟨X, v, hc, h1, h2, h3⟩ := vlist_at (fun x : M × Ls => mc x.1 x.2) (fun x => Nm x.1 ∧ IsL W x.1 x.2) Tryz.underlying47 vc_vmsg (by decide) (fun x hx => by have := mc_len x.1 x.2 hx.1.hd; simpa [mcells] using this)
    (fun fu cs z hz h => by
      obtain ⟨m, L, h1, h2, h3⟩ := vmsg_cs h (Nat.le_trans hz hb)
      exact ⟨(m, L), h1, h2, h3⟩) hf
  simp [Value.cells] at hc
  subst hc
  exact ⟨X, h1, h2, Nat.le_trans h3 hb⟩
end
end Go.Proofs.YthkfcfkkamffpaaGreat
