/-
  Layer 6: frames and records compared.
-/
import Derived.Test.YtlhdbkbgedlmnaaDoorMchk
import Derived.Test.YtlhdbkbgedlmnaaDoorEqd
namespace Go.Proofs.YtlhdbkbgedlmnaaDoor
open Go.RowKit
set_option linter.unusedVariables false
set_option linter.unusedSimpArgs false

section
variable {P : Program}
theorem part_one (w : World) (t : TypeId) (k : IntKind) (cs : Array Value) (off : Nat) (v : Value) (ht : P.underlying t = some (.int k)) (h : cs[off]? = some v) : (part t cs off).run P w = .ok v w := by
  simp [part, isAgg, run_underlying ht, h]
theorem part_agg (w : World) (t : TypeId) (d : TypeDesc) (n : Nat) (cs ds : Array Value) (off : Nat) (ht : P.underlying t = some d) (hd : (match d with | .struct _ | .array _ _ => true | _ => false) = true) (hs : (P.info? t).map (·.size) = some n) (h : cs.extract off (off + n) = ds) : (part t cs off).run P w = .ok (.agg ds) w := by
  obtain ⟨i0, hi, hz⟩ : ∃ i0, P.info? t = some i0 ∧ i0.size = n := by
    cases h : P.info? t with
    | none => rw [h] at hs; simp at hs
    | some i0 => rw [h] at hs; simp at hs; exact ⟨i0, rfl, hs⟩
  cases d <;> simp_all [part, isAgg, run_underlying ht, sizeOf, typeInfo]
/-- one field of a struct compared -/
theorem eqf_step {d : Nat} {xs ys : Array Value} {nm : String} {t : TypeId} {off : Nat} {e : Bool} {tg pk : String} {bo : Nat} {fs : List Field} {a b : Value} {r s : Bool} (w : World) (hn : nm ≠ "_")
    (ha : (part t xs off).run P w = .ok a w) (hb : (part t ys off).run P w = .ok b w) (hr : (Op.equalIn d t a b).run P w = .ok r w) (hs : (Op.eqFields d xs ys fs).run P w = .ok s w) :
    (Op.eqFields d xs ys (⟨nm, t, off, e, tg, pk, bo⟩ :: fs)).run P w = .ok (r && s) w := by
  simp only [Op.eqFields, if_pos hn, Sem.run_bind, ha, hb, hr, Result.andThen_ok]
  cases r
  · simp
  · simp [hs]
theorem eqf_nil {d : Nat} {xs ys : Array Value} (w : World) : (Op.eqFields d xs ys []).run P w = .ok true w := by simp [Op.eqFields]
end

theorem fields_of {P : Program} {t : TypeId} {fs : Array Field} (h : P.underlying t = some (.struct fs)) : P.fieldsOf t = fs := by unfold Program.fieldsOf; rw [h]
/-- a root's cells -/
def rcells (m : Mt.M) : Array Value := (([.int .u32 m.page] : List Value) ++ bys m.sum ++ ([.int .u64 m.cnt, .int .u64 m.rver] : List Value)).toArray
theorem mcells_root (m : Mt.M) (h : m.sum.length = 32) : (mcells m).extract 1 (1 + 35) = rcells m := by
  have hb : (bys m.sum).length = 32 := by rw [bys_length, h]
  unfold mcells rcells
  rw [List.extract_toArray]
  congr 1
  simp [hb, List.take_append, List.take_of_length_le]
theorem rcells_dig (m : Mt.M) (h : m.sum.length = 32) : (rcells m).extract 1 (1 + 32) = (bys m.sum).toArray := by
  have hb : (bys m.sum).length = 32 := by rw [bys_length, h]
  unfold rcells
  rw [List.extract_toArray]
  congr 1
  simp [hb, List.take_append, List.take_of_length_le]
theorem rcells_at (m : Mt.M) (h : m.sum.length = 32) : (rcells m)[0]? = some (.int .u32 m.page) ∧ (rcells m)[33]? = some (.int .u64 m.cnt) ∧ (rcells m)[34]? = some (.int .u64 m.rver) := by
  have hb : (bys m.sum).length = 32 := by rw [bys_length, h]
  have key : ∀ k, k < 2 → (rcells m)[33 + k]? = ([.int .u64 m.cnt, .int .u64 m.rver] : List Value)[k]? := fun k hk => by
    unfold rcells
    rw [List.getElem?_toArray, List.getElem?_append_right (by simp [hb])]
    congr 1
    simp [hb]
  exact ⟨rfl, key 0 (by omega), key 1 (by omega)⟩
theorem natB (a b : Nat) : ((a : Int) == (b : Int)) = decide (a = b) := by
  rw [Bool.eq_iff_iff]; simp; omega
theorem intB (a b : Int) : (a == b) = decide (a = b) := by rw [Bool.eq_iff_iff]; simp
theorem size_root : (Tryd.prog.info? 29).map (·.size) = some 35 := by kernel_rfl
theorem size_dig : (Tryd.prog.info? 27).map (·.size) = some 32 := by kernel_rfl
theorem eqRoot (d : Nat) (m m' : Mt.M) (h : m.sum.length = 32) (h' : m'.sum.length = 32) (w : World) :
    (Op.equalIn (d + 3) 29 (.agg (rcells m)) (.agg (rcells m'))).run Tryd.prog w = .ok (decide (m.page = m'.page) && (m.sum == m'.sum && (decide (m.cnt = m'.cnt) && (decide (m.rver = m'.rver) && true)))) w := by
  obtain ⟨a0, a1, a2⟩ := rcells_at m h
  obtain ⟨b0, b1, b2⟩ := rcells_at m' h'
  rw [run_equalIn_agg w (d + 2) _ _ _ (by kernel_rfl) (by kernel_rfl), fields_of Tryd.underlying29]
  refine eqf_step w (by decide) (part_one w _ _ _ _ _ Tryd.underlying25 a0) (part_one w _ _ _ _ _ Tryd.underlying25 b0) (by rw [run_equalIn_int w _ _ _ _ _ _ Tryd.underlying25, natB]) ?_
  refine eqf_step w (by decide) (part_agg w _ _ 32 _ _ 1 under_digest rfl size_dig (rcells_dig m h)) (part_agg w _ _ 32 _ _ 1 under_digest rfl size_dig (rcells_dig m' h')) (run_equalIn_bytes d _ _ _ _ 32 under_digest Tryd.underlying5 size_byte h h' w) ?_
  refine eqf_step w (by decide) (part_one w _ _ _ _ _ Tryd.underlying24 a1) (part_one w _ _ _ _ _ Tryd.underlying24 b1) (by rw [run_equalIn_int w _ _ _ _ _ _ Tryd.underlying24, natB]) ?_
  refine eqf_step w (by decide) (part_one w _ _ _ _ _ Tryd.underlying24 a2) (part_one w _ _ _ _ _ Tryd.underlying24 b2) (by rw [run_equalIn_int w _ _ _ _ _ _ Tryd.underlying24, natB]) ?_
  exact eqf_nil w
theorem eqMeta (m m' : Mt.M) (h : m.sum.length = 32) (h' : m'.sum.length = 32) (w : World) :
    (Op.equalIn 10000 31 (.agg (mcells m)) (.agg (mcells m'))).run Tryd.prog w = .ok (decide (m = m')) w := by
  obtain ⟨a0, -, -, -, -, a1, a2⟩ := mcells_at m h
  obtain ⟨b0, -, -, -, -, b1, b2⟩ := mcells_at m' h'
  have key : (Op.equalIn (9999 + 1) 31 (.agg (mcells m)) (.agg (mcells m'))).run Tryd.prog w = .ok (decide (m.ver = m'.ver) && ((decide (m.page = m'.page) && (m.sum == m'.sum && (decide (m.cnt = m'.cnt) && (decide (m.rver = m'.rver) && true)))) && (decide (m.list = m'.list) && (decide (m.pages = m'.pages) && true)))) w := by
    rw [run_equalIn_agg w 9999 _ _ _ (by kernel_rfl) (by kernel_rfl), fields_of Tryd.underlying31]
    refine eqf_step w (by decide) (part_one w _ _ _ _ _ Tryd.underlying24 a0) (part_one w _ _ _ _ _ Tryd.underlying24 b0) (by rw [run_equalIn_int w _ _ _ _ _ _ Tryd.underlying24, natB]) ?_
    refine eqf_step w (by decide) (part_agg w _ _ 35 _ _ 1 Tryd.underlying29 rfl size_root (mcells_root m h)) (part_agg w _ _ 35 _ _ 1 Tryd.underlying29 rfl size_root (mcells_root m' h')) (eqRoot 9996 m m' h h' w) ?_
    refine eqf_step w (by decide) (part_one w _ _ _ _ _ Tryd.underlying25 a1) (part_one w _ _ _ _ _ Tryd.underlying25 b1) (by rw [run_equalIn_int w _ _ _ _ _ _ Tryd.underlying25, natB]) ?_
    refine eqf_step w (by decide) (part_one w _ _ _ _ _ Tryd.underlying25 a2) (part_one w _ _ _ _ _ Tryd.underlying25 b2) (by rw [run_equalIn_int w _ _ _ _ _ _ Tryd.underlying25, natB]) ?_
    exact eqf_nil w
  refine key.trans (congrArg (fun b => Result.ok b w) ?_)
  rw [Bool.eq_iff_iff]
  obtain ⟨v, p, s, c, r, l, g⟩ := m
  obtain ⟨v', p', s', c', r', l', g'⟩ := m'
  simp only [Bool.and_eq_true, decide_eq_true_iff, beq_iff_eq, Mt.M.mk.injEq, and_true]
  constructor
  · rintro ⟨a, ⟨b, c, d, e⟩, f, g⟩; exact ⟨a, b, c, d, e, f, g⟩
  · rintro ⟨a, b, c, d, e, f, g⟩; exact ⟨a, ⟨b, c, d, e⟩, f, g⟩
theorem eql_meta (m m' : Mt.M) (h : m.sum.length = 32) (h' : m'.sum.length = 32) (w : World) : (binOp .eql 31 (.agg (mcells m)) (.agg (mcells m'))).run Tryd.prog w = .ok (.bool (decide (m = m'))) w := by
  rw [run_eql_struct, eqMeta m m' h h' w]; rfl
theorem neq_meta (m m' : Mt.M) (h : m.sum.length = 32) (h' : m'.sum.length = 32) (w : World) : (binOp .neq 31 (.agg (mcells m)) (.agg (mcells m'))).run Tryd.prog w = .ok (.bool (!decide (m = m'))) w := by
  rw [run_neq_struct, eqMeta m m' h h' w]; rfl
theorem guard_meta : Tryd.prog.eqGuardType Tryd.prog.depth 31 = false := by kernel_rfl
theorem guard_frame : Tryd.prog.eqGuardType Tryd.prog.depth 23 = false := by kernel_rfl
theorem eqFrame (f g : Mt.F) (w : World) : (Op.equalIn (9999 + 1) 23 (FV f) (FV g)).run Tryd.prog w = .ok (decide (f = g)) w := by
  have key : (Op.equalIn (9999 + 1) 23 (FV f) (FV g)).run Tryd.prog w = .ok (decide (f.page = g.page) && (decide (f.width = g.width) && true)) w := by
    rw [run_equalIn_agg w 9999 _ _ _ (by kernel_rfl) (by kernel_rfl), fields_of Tryd.underlying23]
    refine eqf_step w (by decide) (part_one w _ _ _ _ (.int .i64 f.page) Tryd.underlying3 rfl) (part_one w _ _ _ _ (.int .i64 g.page) Tryd.underlying3 rfl) (by rw [run_equalIn_int w _ _ _ _ _ _ Tryd.underlying3, intB]) ?_
    refine eqf_step w (by decide) (part_one w _ _ _ _ (.int .i64 f.width) Tryd.underlying3 rfl) (part_one w _ _ _ _ (.int .i64 g.width) Tryd.underlying3 rfl) (by rw [run_equalIn_int w _ _ _ _ _ _ Tryd.underlying3, intB]) ?_
    exact eqf_nil w
  refine key.trans (congrArg (fun b => Result.ok b w) ?_)
  rw [Bool.eq_iff_iff]
  obtain ⟨v, p⟩ := f
  obtain ⟨v', p'⟩ := g
  simp only [Bool.and_eq_true, decide_eq_true_iff, Mt.F.mk.injEq, and_true]
theorem eql_frame (f g : Mt.F) (w : World) : (binOp .eql 23 (FV f) (FV g)).run Tryd.prog w = .ok (.bool (decide (f = g))) w := by
  rw [run_eql_struct, eqFrame f g w]; rfl
theorem neq_frame (f g : Mt.F) (w : World) : (binOp .neq 23 (FV f) (FV g)).run Tryd.prog w = .ok (.bool (!decide (f = g))) w := by
  rw [run_neq_struct, eqFrame f g w]; rfl
end Go.Proofs.YtlhdbkbgedlmnaaDoor
