/-
  Layer 6: frames, records, slots and turns that came in.
-/
import Derived.Test.YtlhdbkbgedlmnaaDoorMchk
import Derived.Test.YtlhdbkbgedlmnaaDoorOpen
import Derived.ChangeArms
namespace Go.Proofs.YtlhdbkbgedlmnaaDoor
open Go.ChangeShapes Go.WideShapes Go.ChangeAt Go.RowKit
open Go.ChangeMaps (open_string)
set_option linter.unusedVariables false

/-- a turn's cells -/
def tcells (m : Mt.M) (c : UInt8) (n : Int) : Array Value := ((mcells m).toList ++ ([.int .u8 c.toNat, .int .i64 n] : List Value)).toArray
theorem cellsF : Tryd.prog.cellsOf 23 = 2 := by kernel_rfl
theorem cellsM : Tryd.prog.cellsOf 31 = 38 := by kernel_rfl
theorem cellsR : Tryd.prog.cellsOf 29 = 35 := by kernel_rfl
theorem cellsD : Tryd.prog.cellsOf 27 = 32 := by kernel_rfl
theorem cellsI : Tryd.prog.cellsOf 3 = 1 := by kernel_rfl
theorem cellsB : Tryd.prog.cellsOf 5 = 1 := by kernel_rfl
theorem cellsU : Tryd.prog.cellsOf 24 = 1 := by kernel_rfl
theorem cellsV : Tryd.prog.cellsOf 25 = 1 := by kernel_rfl
theorem cellsS : Tryd.prog.cellsOf 9 = 1 := by kernel_rfl
theorem under_dig' : Tryd.prog.underlying 27 = some (.array 32 5) := by kernel_rfl
section
variable {H : Type} {enc : TypeId × Value → H} {W : World} {fuel : Nat} {cs : List Value} {y : DataW H × List MemPlace}
theorem int_cs (h : DataW.trod enc Tryd.prog W 0 (fun _ => true) true fuel 3 cs = some y) : ∃ a : Int, cs = [.int .i64 a] ∧ -9223372036854775808 ≤ a ∧ a < 9223372036854775808 := by
  obtain ⟨x, hcs, _, hw⟩ := DataW.trod_int Tryd.underlying3 h
  simp [Lit.wf, IntKind.min, IntKind.max, IntKind.signed, IntKind.bits] at hw
  exact ⟨x, hcs, by omega, by omega⟩
theorem u64_cs (h : DataW.trod enc Tryd.prog W 0 (fun _ => true) true fuel 24 cs = some y) : ∃ a : Nat, cs = [.int .u64 a] ∧ a < 18446744073709551616 := by
  obtain ⟨x, hcs, _, hw⟩ := DataW.trod_int Tryd.underlying24 h
  simp [Lit.wf, IntKind.min, IntKind.max, IntKind.signed, IntKind.bits] at hw
  exact ⟨x.toNat, by rw [hcs]; congr 2; omega, by omega⟩
theorem u32_cs (h : DataW.trod enc Tryd.prog W 0 (fun _ => true) true fuel 25 cs = some y) : ∃ a : Nat, cs = [.int .u32 a] ∧ a < 4294967296 := by
  obtain ⟨x, hcs, _, hw⟩ := DataW.trod_int Tryd.underlying25 h
  simp [Lit.wf, IntKind.min, IntKind.max, IntKind.signed, IntKind.bits] at hw
  exact ⟨x.toNat, by rw [hcs]; congr 2; omega, by omega⟩
theorem u8_cs (h : DataW.trod enc Tryd.prog W 0 (fun _ => true) true fuel 5 cs = some y) : ∃ b : UInt8, cs = [.int .u8 b.toNat] := by
  obtain ⟨x, hcs, _, hw⟩ := DataW.trod_int Tryd.underlying5 h
  simp [Lit.wf, IntKind.min, IntKind.max, IntKind.signed, IntKind.bits] at hw
  exact ⟨UInt8.ofNat x.toNat, by rw [hcs, UInt8.toNat_ofNat']; congr 2; omega⟩
theorem str_cs (h : DataW.trod enc Tryd.prog W 0 (fun _ => true) true fuel 9 cs = some y) : ∃ l : List UInt8, cs = [S l] ∧ l.length ≤ maxLen := by
  obtain ⟨s, hcs, _, hs⟩ := DataW.trod_string Tryd.underlying9 h
  exact ⟨s.data.toList, hcs, Nat.le_trans (Nat.le_of_eq Array.length_toList) hs⟩
theorem part_of {cs : List Value} {i n : Nat} {r : List Value} (h : (cs.drop i).take n = r) (hi : i + n ≤ cs.length) : cs.drop i = r ++ cs.drop (i + n) := by
  rw [← h, ← List.drop_drop, List.take_append_drop]
theorem frame_cs (h : DataW.trod enc Tryd.prog W 0 (fun _ => true) true fuel 23 cs = some y) : ∃ f : Mt.F, cs = [.int .i64 f.page, .int .i64 f.width] := by
  obtain ⟨ys, n, -, -, hl, hyl, hf⟩ := DataW.trod_struct Tryd.underlying23 h
  have h0 : DataW.trod enc Tryd.prog W 0 (fun _ => true) true n 3 ((cs.drop 0).take (Tryd.prog.cellsOf 3)) = ys[0]? := hf 0 _ rfl
  have h1 : DataW.trod enc Tryd.prog W 0 (fun _ => true) true n 3 ((cs.drop 1).take (Tryd.prog.cellsOf 3)) = ys[1]? := hf 1 _ rfl
  obtain ⟨y0, e0⟩ : ∃ z, ys[0]? = some z := ⟨_, List.getElem?_eq_getElem (by rw [hyl]; decide)⟩
  obtain ⟨y1, e1⟩ : ∃ z, ys[1]? = some z := ⟨_, List.getElem?_eq_getElem (by rw [hyl]; decide)⟩
  rw [e0] at h0
  rw [e1] at h1
  obtain ⟨a, ha, -⟩ := int_cs h0
  obtain ⟨b, hb, -⟩ := int_cs h1
  rw [cellsF] at hl
  rw [cellsI] at ha hb
  have p0 := part_of ha (by omega)
  have p1 := part_of hb (by omega)
  refine ⟨⟨a, b⟩, ?_⟩
  rw [List.drop_zero] at p0
  rw [p0, p1, List.drop_eq_nil_of_le (by omega)]
  rfl
theorem dig_cs (h : DataW.trod enc Tryd.prog W 0 (fun _ => true) true fuel 27 cs = some y) : ∃ d : List UInt8, d.length = 32 ∧ cs = bys d := by
  obtain ⟨ys, n, -, -, hl, hyl, hf⟩ := DataW.trod_array under_dig' h
  rw [cellsD] at hl
  have key : ∀ k, k ≤ 32 → ∃ d : List UInt8, d.length = k ∧ cs.take k = bys d := by
    intro k
    induction k with
    | zero => intro _; exact ⟨[], rfl, by simp [bys]⟩
    | succ k ih =>
      intro hk
      obtain ⟨d, hd, hc⟩ := ih (by omega)
      have h1 := hf k (by omega)
      obtain ⟨z, e⟩ : ∃ z, ys[k]? = some z := ⟨_, List.getElem?_eq_getElem (by omega)⟩
      rw [e, cellsB] at h1
      obtain ⟨b, hb⟩ := u8_cs h1
      rw [Nat.mul_one] at hb
      refine ⟨d ++ [b], by simp [hd], ?_⟩
      rw [bys_append, ← hc, List.take_add_one]
      congr 1
      have hb' : (cs.drop k)[0]? = some (.int .u8 b.toNat) := by
        have := congrArg (fun l => l[0]?) hb
        simpa using this
      rw [List.getElem?_drop, Nat.add_zero] at hb'
      rw [hb']; rfl
  obtain ⟨d, hd, hc⟩ := key 32 (by omega)
  exact ⟨d, hd, by rw [← hc, List.take_of_length_le (by omega)]⟩
theorem root_cs (h : DataW.trod enc Tryd.prog W 0 (fun _ => true) true fuel 29 cs = some y) : ∃ (p c v : Nat) (d : List UInt8), p < 4294967296 ∧ c < 18446744073709551616 ∧ v < 18446744073709551616 ∧ d.length = 32 ∧ cs = [.int .u32 p] ++ bys d ++ [.int .u64 c, .int .u64 v] := by
  obtain ⟨ys, n, -, -, hl, hyl, hf⟩ := DataW.trod_struct Tryd.underlying29 h
  have h0 : DataW.trod enc Tryd.prog W 0 (fun _ => true) true n 25 ((cs.drop 0).take (Tryd.prog.cellsOf 25)) = ys[0]? := hf 0 _ rfl
  have h1 : DataW.trod enc Tryd.prog W 0 (fun _ => true) true n 27 ((cs.drop 1).take (Tryd.prog.cellsOf 27)) = ys[1]? := hf 1 _ rfl
  have h2 : DataW.trod enc Tryd.prog W 0 (fun _ => true) true n 24 ((cs.drop 33).take (Tryd.prog.cellsOf 24)) = ys[2]? := hf 2 _ rfl
  have h3 : DataW.trod enc Tryd.prog W 0 (fun _ => true) true n 24 ((cs.drop 34).take (Tryd.prog.cellsOf 24)) = ys[3]? := hf 3 _ rfl
  obtain ⟨y0, e0⟩ : ∃ z, ys[0]? = some z := ⟨_, List.getElem?_eq_getElem (by rw [hyl]; decide)⟩
  obtain ⟨y1, e1⟩ : ∃ z, ys[1]? = some z := ⟨_, List.getElem?_eq_getElem (by rw [hyl]; decide)⟩
  obtain ⟨y2, e2⟩ : ∃ z, ys[2]? = some z := ⟨_, List.getElem?_eq_getElem (by rw [hyl]; decide)⟩
  obtain ⟨y3, e3⟩ : ∃ z, ys[3]? = some z := ⟨_, List.getElem?_eq_getElem (by rw [hyl]; decide)⟩
  rw [e0] at h0
  rw [e1] at h1
  rw [e2] at h2
  rw [e3] at h3
  obtain ⟨a, ha, ba⟩ := u32_cs h0
  obtain ⟨d, hd, bd⟩ := dig_cs h1
  obtain ⟨c, hc, bc⟩ := u64_cs h2
  obtain ⟨v, hv, bv⟩ := u64_cs h3
  rw [cellsR] at hl
  rw [cellsV] at ha
  rw [cellsD] at bd
  rw [cellsU] at hc hv
  have p0 := part_of ha (by omega)
  have p1 := part_of bd (by omega)
  have p2 := part_of hc (by omega)
  have p3 := part_of hv (by omega)
  refine ⟨a, c, v, d, ba, bc, bv, hd, ?_⟩
  rw [List.drop_zero] at p0
  rw [p0, p1, p2, p3, List.drop_eq_nil_of_le (by omega)]
  simp
theorem meta_cs (h : DataW.trod enc Tryd.prog W 0 (fun _ => true) true fuel 31 cs = some y) : ∃ m : Mt.M, m.Ok ∧ cs = (mcells m).toList := by
  obtain ⟨ys, n, -, -, hl, hyl, hf⟩ := DataW.trod_struct Tryd.underlying31 h
  have h0 : DataW.trod enc Tryd.prog W 0 (fun _ => true) true n 24 ((cs.drop 0).take (Tryd.prog.cellsOf 24)) = ys[0]? := hf 0 _ rfl
  have h1 : DataW.trod enc Tryd.prog W 0 (fun _ => true) true n 29 ((cs.drop 1).take (Tryd.prog.cellsOf 29)) = ys[1]? := hf 1 _ rfl
  have h2 : DataW.trod enc Tryd.prog W 0 (fun _ => true) true n 25 ((cs.drop 36).take (Tryd.prog.cellsOf 25)) = ys[2]? := hf 2 _ rfl
  have h3 : DataW.trod enc Tryd.prog W 0 (fun _ => true) true n 25 ((cs.drop 37).take (Tryd.prog.cellsOf 25)) = ys[3]? := hf 3 _ rfl
  obtain ⟨y0, e0⟩ : ∃ z, ys[0]? = some z := ⟨_, List.getElem?_eq_getElem (by rw [hyl]; decide)⟩
  obtain ⟨y1, e1⟩ : ∃ z, ys[1]? = some z := ⟨_, List.getElem?_eq_getElem (by rw [hyl]; decide)⟩
  obtain ⟨y2, e2⟩ : ∃ z, ys[2]? = some z := ⟨_, List.getElem?_eq_getElem (by rw [hyl]; decide)⟩
  obtain ⟨y3, e3⟩ : ∃ z, ys[3]? = some z := ⟨_, List.getElem?_eq_getElem (by rw [hyl]; decide)⟩
  rw [e0] at h0
  rw [e1] at h1
  rw [e2] at h2
  rw [e3] at h3
  obtain ⟨a, ha, ba⟩ := u64_cs h0
  obtain ⟨p, c, v, d, bp, bc, bv, bd, hr⟩ := root_cs h1
  obtain ⟨l, hli, bl⟩ := u32_cs h2
  obtain ⟨g, hg, bg⟩ := u32_cs h3
  rw [cellsM] at hl
  rw [cellsU] at ha
  rw [cellsR] at hr
  rw [cellsV] at hli hg
  have p0 := part_of ha (by omega)
  have p1 := part_of hr (by omega)
  have p2 := part_of hli (by omega)
  have p3 := part_of hg (by omega)
  refine ⟨⟨a, p, d, c, v, l, g⟩, ⟨ba, bp, bd, bc, bv, bl, bg⟩, ?_⟩
  rw [List.drop_zero] at p0
  rw [p0, p1, p2, p3, List.drop_eq_nil_of_le (by omega)]
  simp [mcells]
set_option maxRecDepth 100000 in
/-- a frame that came in -/
theorem opens_frame {base : Nat} {v : Value} {d : DataW H} {p : List MemPlace} (hval : Value.okWide Tryd.prog W .any base 23 v)
    (h : DataW.Trod enc Tryd.prog W 0 (fun _ => true) true 23 v d p) : ∃ f : Mt.F, v = FV f := by
  obtain ⟨cs, rfl, -⟩ := okWide_struct Tryd.underlying23 hval
  obtain ⟨fuel, hf⟩ := h
  obtain ⟨f, hc⟩ := frame_cs hf
  exact ⟨f, by rw [show cs = (cs.toList).toArray by simp]; congr 1; rw [show cs.toList = _ from hc]⟩
set_option maxRecDepth 100000 in
/-- a record that came in -/
theorem opens_meta {base : Nat} {v : Value} {d : DataW H} {p : List MemPlace} (hval : Value.okWide Tryd.prog W .any base 31 v)
    (h : DataW.Trod enc Tryd.prog W 0 (fun _ => true) true 31 v d p) : ∃ m : Mt.M, v = .agg (mcells m) ∧ m.Ok := by
  obtain ⟨cs, rfl, -⟩ := okWide_struct Tryd.underlying31 hval
  obtain ⟨fuel, hf⟩ := h
  obtain ⟨m, hm, hc⟩ := meta_cs hf
  exact ⟨m, by rw [show cs = (cs.toList).toArray by simp, show cs.toList = _ from hc], hm⟩
set_option maxRecDepth 100000 in
/-- a text that came in, of whatever length -/
theorem opens_text {base : Nat} {v : Value} {d : DataW H} {p : List MemPlace} (hval : Value.okWide Tryd.prog W .any base 9 v)
    (h : DataW.Trod enc Tryd.prog W 0 (fun _ => true) true 9 v d p) : ∃ l : List UInt8, v = S l ∧ l.length ≤ maxLen := by
  obtain ⟨s, rfl, rfl, rfl, hs⟩ := open_string Tryd.underlying9 hval h
  exact ⟨s.data.toList, rfl, Nat.le_trans (Nat.le_of_eq Array.length_toList) hs⟩
set_option maxRecDepth 100000 in
/-- a byte that came in -/
theorem opens_u8 {base : Nat} {v : Value} {d : DataW H} {p : List MemPlace} (hval : Value.okWide Tryd.prog W .any base 5 v)
    (h : DataW.Trod enc Tryd.prog W 0 (fun _ => true) true 5 v d p) : ∃ b : UInt8, v = .int .u8 b.toNat := by
  obtain ⟨x, rfl, rfl, rfl, hw⟩ := open_int Tryd.underlying5 hval h
  simp [Lit.wf, IntKind.min, IntKind.max, IntKind.signed, IntKind.bits] at hw
  exact ⟨UInt8.ofNat x.toNat, by rw [UInt8.toNat_ofNat']; congr 1; omega⟩
end
section
variable {H : Type} {enc : TypeId × Value → H} {W : World}
set_option maxRecDepth 100000 in
/-- two slots' pages that came in -/
theorem opens_slots {base : Nat} {v : Value} {d : DataW H} {p : List MemPlace} (hval : Value.okWide Tryd.prog W .any base 48 v)
    (h : DataW.Trod enc Tryd.prog W 0 (fun _ => true) true 48 v d p) : ∃ a b : List UInt8, v = .agg #[S a, S b] := by
  obtain ⟨cs, rfl, -⟩ := okWide_struct Tryd.underlying48 hval
  obtain ⟨fuel, hf⟩ := h
  obtain ⟨ys, n, -, -, hl, hyl, hf⟩ := DataW.trod_struct Tryd.underlying48 hf
  have h0 : DataW.trod enc Tryd.prog W 0 (fun _ => true) true n 9 ((cs.toList.drop 0).take (Tryd.prog.cellsOf 9)) = ys[0]? := hf 0 _ rfl
  have h1 : DataW.trod enc Tryd.prog W 0 (fun _ => true) true n 9 ((cs.toList.drop 1).take (Tryd.prog.cellsOf 9)) = ys[1]? := hf 1 _ rfl
  obtain ⟨y0, e0⟩ : ∃ z, ys[0]? = some z := ⟨_, List.getElem?_eq_getElem (by rw [hyl]; decide)⟩
  obtain ⟨y1, e1⟩ : ∃ z, ys[1]? = some z := ⟨_, List.getElem?_eq_getElem (by rw [hyl]; decide)⟩
  rw [e0] at h0
  rw [e1] at h1
  obtain ⟨a, ha, -⟩ := str_cs h0
  obtain ⟨b, hb, -⟩ := str_cs h1
  rw [show (Value.agg cs).cells.toList = cs.toList from rfl, show Tryd.prog.cellsOf 48 = 2 by kernel_rfl] at hl
  rw [cellsS] at ha hb
  have p0 := part_of ha (by omega)
  have p1 := part_of hb (by omega)
  rw [List.drop_zero] at p0
  rw [p1, List.drop_eq_nil_of_le (by omega)] at p0
  exact ⟨a, b, by rw [show cs = (cs.toList).toArray by simp, p0]; rfl⟩
set_option maxRecDepth 100000 in
/-- a turn that came in -/
theorem opens_turn {base : Nat} {v : Value} {d : DataW H} {p : List MemPlace} (hval : Value.okWide Tryd.prog W .any base 59 v)
    (h : DataW.Trod enc Tryd.prog W 0 (fun _ => true) true 59 v d p) : ∃ (m : Mt.M) (c : UInt8) (n : Int), v = .agg (tcells m c n) ∧ m.Ok := by
  obtain ⟨cs, rfl, -⟩ := okWide_struct Tryd.underlying59 hval
  obtain ⟨fuel, hf⟩ := h
  obtain ⟨ys, n, -, -, hl, hyl, hf⟩ := DataW.trod_struct Tryd.underlying59 hf
  have h0 : DataW.trod enc Tryd.prog W 0 (fun _ => true) true n 31 ((cs.toList.drop 0).take (Tryd.prog.cellsOf 31)) = ys[0]? := hf 0 _ rfl
  have h1 : DataW.trod enc Tryd.prog W 0 (fun _ => true) true n 5 ((cs.toList.drop 38).take (Tryd.prog.cellsOf 5)) = ys[1]? := hf 1 _ rfl
  have h2 : DataW.trod enc Tryd.prog W 0 (fun _ => true) true n 3 ((cs.toList.drop 39).take (Tryd.prog.cellsOf 3)) = ys[2]? := hf 2 _ rfl
  obtain ⟨y0, e0⟩ : ∃ z, ys[0]? = some z := ⟨_, List.getElem?_eq_getElem (by rw [hyl]; decide)⟩
  obtain ⟨y1, e1⟩ : ∃ z, ys[1]? = some z := ⟨_, List.getElem?_eq_getElem (by rw [hyl]; decide)⟩
  obtain ⟨y2, e2⟩ : ∃ z, ys[2]? = some z := ⟨_, List.getElem?_eq_getElem (by rw [hyl]; decide)⟩
  rw [e0] at h0
  rw [e1] at h1
  rw [e2] at h2
  obtain ⟨m, hm, ha⟩ := meta_cs h0
  obtain ⟨b, hb⟩ := u8_cs h1
  obtain ⟨c, hc, -⟩ := int_cs h2
  rw [show (Value.agg cs).cells.toList = cs.toList from rfl, show Tryd.prog.cellsOf 59 = 40 by kernel_rfl] at hl
  rw [cellsM] at ha
  rw [cellsB] at hb
  rw [cellsI] at hc
  have p0 := part_of ha (by omega)
  have p1 := part_of hb (by omega)
  have p2 := part_of hc (by omega)
  rw [List.drop_zero] at p0
  rw [p1, p2, List.drop_eq_nil_of_le (by omega)] at p0
  exact ⟨m, b, c, by rw [show cs = (cs.toList).toArray by simp, p0]; rfl, hm⟩
end
end Go.Proofs.YtlhdbkbgedlmnaaDoor
