/-
  Layer 27: messages compared. Printed by gen_yc.py.
-/
import Derived.Test.YthkfcfkkamffpaaGreatYa
import Derived.Test.YthkfcfkkamffpaaGreatEqd
namespace Go.Proofs.YthkfcfkkamffpaaGreat
open Go.RowKit
set_option linter.unusedVariables false
set_option linter.unusedSimpArgs false
open Wm (M)
attribute [local go_sem ↓] ld_dig st_dig

section
variable {P : Program}
theorem part_one (w : World) (t : TypeId) (d : TypeDesc) (cs : Array Value) (off : Nat) (v : Value) (ht : P.underlying t = some d) (hd : (match d with | .struct _ | .array _ _ => true | _ => false) = false) (h : cs[off]? = some v) : (part t cs off).run P w = .ok v w := by
  cases d <;> simp_all [part, isAgg, run_underlying ht]
theorem part_agg (w : World) (t : TypeId) (d : TypeDesc) (n : Nat) (cs ds : Array Value) (off : Nat) (ht : P.underlying t = some d) (hd : (match d with | .struct _ | .array _ _ => true | _ => false) = true) (hs : (P.info? t).map (·.size) = some n) (h : cs.extract off (off + n) = ds) : (part t cs off).run P w = .ok (.agg ds) w := by
  obtain ⟨i0, hi, hz⟩ : ∃ i0, P.info? t = some i0 ∧ i0.size = n := by
    cases h : P.info? t with
    | none => rw [h] at hs; simp at hs
    | some i0 => rw [h] at hs; simp at hs; exact ⟨i0, rfl, hs⟩
  cases d <;> simp_all [part, isAgg, run_underlying ht, sizeOf, typeInfo]
/-- one field of a struct compared -/
theorem eqf_step {d : Nat} {xs ys : Array Value} {nm : String} {t : TypeId} {off : Nat} {e : Bool} {tg pk : String} {bo : Nat} {fs : List Field} {a b : Value} {r s : Bool} (w : World) (hn : nm ≠ "_")
    (ha : (part t xs off).run P w = .ok a w) (hb : (part t ys off).run P w = .ok b w) (hr : (Op.equalIn d t a b).run P w = .ok r w) (hs : (Op.eqFields d xs ys fs).run P w = .ok s w) :
    (Op.eqFields d xs ys (⟨nm, t, off, e, tg, pk, bo⟩ :: fs)).run P w = .ok (r && s) w := by
  simp only [Op.eqFields, if_pos hn, Sem.run_bind, ha, hb, hr, Result.andThen_ok]
  cases r
  · simp
  · simp [hs]
theorem eqf_nil {d : Nat} {xs ys : Array Value} (w : World) : (Op.eqFields d xs ys []).run P w = .ok true w := by simp [Op.eqFields]
end
theorem fields_of {P : Program} {t : TypeId} {fs : Array Field} (h : P.underlying t = some (.struct fs)) : P.fieldsOf t = fs := by unfold Program.fieldsOf; rw [h]
theorem natB (a b : Nat) : ((a : Int) == (b : Int)) = decide (a = b) := by rw [Bool.eq_iff_iff]; simp; omega
theorem intB (a b : Int) : (a == b) = decide (a = b) := by rw [Bool.eq_iff_iff]; simp
theorem strB (a b : List UInt8) : ((⟨a.toArray⟩ : ByteArray).toList == (⟨b.toArray⟩ : ByteArray).toList) = decide (a = b) := by
  rw [Bool.eq_iff_iff]; simp [ByteArray.toList_eq]
theorem eqPair (d : Nat) (x y : List UInt8 × List UInt8) (w : World) : (Op.equalIn (d + 2) 75 (.agg #[S x.1, S x.2]) (.agg #[S y.1, S y.2])).run Tryz.prog w = .ok (decide (x = y)) w := by
  have key : (Op.equalIn (d + 2) 75 (.agg #[S x.1, S x.2]) (.agg #[S y.1, S y.2])).run Tryz.prog w = .ok (decide (x.1 = y.1) && (decide (x.2 = y.2) && true)) w := by
    rw [run_equalIn_agg w (d + 1) _ _ _ (by kernel_rfl) (by kernel_rfl), fields_of Tryz.underlying75]
    refine eqf_step w (by decide) (part_one w _ _ _ _ (S x.1) Tryz.underlying9 rfl rfl) (part_one w _ _ _ _ (S y.1) Tryz.underlying9 rfl rfl) (by rw [run_equalIn_string w _ _ _ _ Tryz.underlying9, strB]) ?_
    refine eqf_step w (by decide) (part_one w _ _ _ _ (S x.2) Tryz.underlying9 rfl rfl) (part_one w _ _ _ _ (S y.2) Tryz.underlying9 rfl rfl) (by rw [run_equalIn_string w _ _ _ _ Tryz.underlying9, strB]) ?_
    exact eqf_nil w
  refine key.trans (congrArg (fun b => Result.ok b w) ?_)
  rw [Bool.eq_iff_iff]
  obtain ⟨a, b⟩ := x
  obtain ⟨c, e⟩ := y
  simp
theorem neq_pair (x y : List UInt8 × List UInt8) (w : World) : (binOp .neq 75 (.agg #[S x.1, S x.2]) (.agg #[S y.1, S y.2])).run Tryz.prog w = .ok (.bool (!decide (x = y))) w := by
  rw [run_neq_struct, eqPair 9998 x y w]; rfl
theorem neq_dig (a b : List UInt8) (ha : a.length = 32) (hb : b.length = 32) (w : World) : (binOp .neq 27 (.agg (bys a).toArray) (.agg (bys b).toArray)).run Tryz.prog w = .ok (.bool (!decide (a = b))) w := by
  rw [run_neq_struct, run_equalIn_bytes 9998 _ 5 a b 32 under_digest Tryz.underlying5 size_byte ha hb w, show (a == b) = decide (a = b) by rw [Bool.eq_iff_iff]; simp]
  rfl
theorem guard_pair : Tryz.prog.eqGuardType Tryz.prog.depth 75 = false := by kernel_rfl
theorem take_more {α : Type} {l r : List α} {j : Nat} {x : α} (h : l.take j = r.take j) (hx : l[j]? = some x) (hy : r[j]? = some x) : l.take (j + 1) = r.take (j + 1) := by
  rw [List.take_add_one, List.take_add_one, h, hx, hy]

set_option maxHeartbeats 2000000 in
set_option maxRecDepth 100000 in
theorem equal_int (A B : Option Addr) (c d : Nat) (l r : List Int) (w : World) (hl : RL w A 1 l.length (l.flatMap fun x => [.int .i64 x])) (hr : RL w B 1 r.length (r.flatMap fun x => [.int .i64 x])) (hn : l.length ≤ 1048576) (hn2 : r.length ≤ 1048576) :
    Calls Tryz.prog 62 #[.slice A l.length c, .slice B r.length d] w fun e w' => e = .returned (.bool (decide (l = r))) ∧ ∃ n, w' = w.drewN n := by
  have Hl := Lib.hid hl
  have Hr := Lib.hid hr
  clear hl hr
  by_cases he : l.length = r.length
  · go_enter Tryz.func62, Tryz.ntmps62
    go_wp2_with fail
    go_loopw [5, 13] (fun _ iv wr => ∃ k : Nat, k ≤ l.length ∧ iv = .int .i64 k ∧ l.take k = r.take k ∧ ∃ n, wr = w.drewN n) (fun _ iv _ => l.length - (intOf iv).toNat)
    case atStart => exact ⟨0, by omega, rfl, by simp, 0, rfl⟩
    case round =>
      obtain ⟨k, hk, rfl, hall, m, rfl⟩ := hrel
      by_cases hp : k < l.length
      · obtain ⟨x, hx⟩ : ∃ x, l[k]? = some x := ⟨_, List.getElem?_eq_getElem hp⟩
        obtain ⟨y, hy⟩ : ∃ y, r[k]? = some y := ⟨_, List.getElem?_eq_getElem (by omega)⟩
        obtain ⟨b1, o1, rfl, hc1⟩ := RL.at_ (size := 1) (f := fun x => [.int .i64 x]) (fun x hm => rfl) (Hl.out) hx
        obtain ⟨b2, o2, rfl, hc2⟩ := RL.at_ (size := 1) (f := fun x => [.int .i64 x]) (fun x hm => rfl) (Hr.out) hy
        have Hx := Lib.hid hx
        have Hy := Lib.hid hy
        have Hall := Lib.hid hall
        have d1 := hc1 0 _ rfl
        have d2 := hc2 0 _ rfl
        rw [Nat.mul_one, Nat.add_zero] at d1 d2
        clear hx hy hall hc1 hc2
        by_cases hxy : x = y
        · have hdec : decide (x = y) = true := decide_eq_true hxy
          have hbq : (x == y) = true := by simpa using hxy
          have Hxy := Lib.hid hxy
          clear hxy hdec
          go_wp2_with fail
          go_quiet (fail)
          go_wp2_with fail
          go_roundw
          case rel => exact ⟨k + 1, by omega, by go_num, take_more Hall.out Hx.out (Hxy.out ▸ Hy.out), m + nq, by first | rfl | rw [World.drewN_drewN]⟩
          case measure => simp [intOf]; omega
        · have hdec : decide (x = y) = false := decide_eq_false hxy
          have hbq : (x == y) = false := by simpa using hxy
          have Hxy := Lib.hid hxy
          clear hxy hdec
          go_wp2_with fail
          go_quiet (fail)
          go_wp2_with fail
          go_ret
          refine ⟨ret_bool ?_, m + nq, by first | rfl | rw [World.drewN_drewN]⟩
          refine (decide_eq_false fun e => ?_).symm
          subst e
          have := (Hx.out).symm.trans (Hy.out)
          injection this with this
          exact Hxy.out this
      · obtain rfl : k = l.length := by omega
        have Hall := Lib.hid hall
        clear hall
        go_wp2_with fail
        go_ret
        refine ⟨ret_bool ?_, m, rfl⟩
        refine (decide_eq_true ?_).symm
        have := Hall.out
        rwa [List.take_of_length_le (Nat.le_refl _), List.take_of_length_le (by omega)] at this
  · have hd : decide (l = r) = false := decide_eq_false fun e => he (by rw [e])
    rw [hd]
    clear hd
    have hne : ¬ (l.length : Int) = r.length := by omega
    go_enter Tryz.func62, Tryz.ntmps62
    go_wp2_with fail
    go_ret
    exact ⟨rfl, 0, rfl⟩

set_option maxHeartbeats 2000000 in
set_option maxRecDepth 100000 in
theorem equal_pair (A B : Option Addr) (c d : Nat) (l r : List (List UInt8 × List UInt8)) (w : World) (hl : RL w A 2 l.length (l.flatMap fun x => [S x.1, S x.2])) (hr : RL w B 2 r.length (r.flatMap fun x => [S x.1, S x.2])) (hn : l.length ≤ 1048576) (hn2 : r.length ≤ 1048576) :
    Calls Tryz.prog 61 #[.slice A l.length c, .slice B r.length d] w fun e w' => e = .returned (.bool (decide (l = r))) ∧ ∃ n, w' = w.drewN n := by
  have Hl := Lib.hid hl
  have Hr := Lib.hid hr
  clear hl hr
  by_cases he : l.length = r.length
  · go_enter Tryz.func61, Tryz.ntmps61
    go_wp2_with fail
    go_loopw [5, 13] (fun _ iv wr => ∃ k : Nat, k ≤ l.length ∧ iv = .int .i64 k ∧ l.take k = r.take k ∧ ∃ n, wr = w.drewN n) (fun _ iv _ => l.length - (intOf iv).toNat)
    case atStart => exact ⟨0, by omega, rfl, by simp, 0, rfl⟩
    case round =>
      obtain ⟨k, hk, rfl, hall, m, rfl⟩ := hrel
      by_cases hp : k < l.length
      · obtain ⟨x, hx⟩ : ∃ x, l[k]? = some x := ⟨_, List.getElem?_eq_getElem hp⟩
        obtain ⟨y, hy⟩ : ∃ y, r[k]? = some y := ⟨_, List.getElem?_eq_getElem (by omega)⟩
        obtain ⟨b1, o1, rfl, hc1⟩ := RL.at_ (size := 2) (f := fun x => [S x.1, S x.2]) (fun x hm => rfl) (Hl.out) hx
        obtain ⟨b2, o2, rfl, hc2⟩ := RL.at_ (size := 2) (f := fun x => [S x.1, S x.2]) (fun x hm => rfl) (Hr.out) hy
        have Hx := Lib.hid hx
        have Hy := Lib.hid hy
        have Hall := Lib.hid hall
        have d1 := hc1 0 _ rfl
        have d2 := hc2 0 _ rfl
        have d3 := hc1 1 _ rfl
        have d4 := hc2 1 _ rfl
        rw [Nat.add_zero] at d1 d2
        have hne := fun w => neq_pair x y w
        have hgp := guard_pair
        clear hx hy hall hc1 hc2
        by_cases hxy : x = y
        · have hdec : decide (x = y) = true := decide_eq_true hxy
          simp only [hdec] at hne
          have Hxy := Lib.hid hxy
          clear hxy hdec
          go_wp2_with fail
          go_quiet (fail)
          go_wp2_with fail
          go_roundw
          case rel => exact ⟨k + 1, by omega, by go_num, take_more Hall.out Hx.out (Hxy.out ▸ Hy.out), m + nq, by first | rfl | rw [World.drewN_drewN]⟩
          case measure => simp [intOf]; omega
        · have hdec : decide (x = y) = false := decide_eq_false hxy
          simp only [hdec] at hne
          have Hxy := Lib.hid hxy
          clear hxy hdec
          go_wp2_with fail
          go_quiet (fail)
          go_wp2_with fail
          go_ret
          refine ⟨ret_bool ?_, m + nq, by first | rfl | rw [World.drewN_drewN]⟩
          refine (decide_eq_false fun e => ?_).symm
          subst e
          have := (Hx.out).symm.trans (Hy.out)
          injection this with this
          exact Hxy.out this
      · obtain rfl : k = l.length := by omega
        have Hall := Lib.hid hall
        clear hall
        go_wp2_with fail
        go_ret
        refine ⟨ret_bool ?_, m, rfl⟩
        refine (decide_eq_true ?_).symm
        have := Hall.out
        rwa [List.take_of_length_le (Nat.le_refl _), List.take_of_length_le (by omega)] at this
  · have hd : decide (l = r) = false := decide_eq_false fun e => he (by rw [e])
    rw [hd]
    clear hd
    have hne : ¬ (l.length : Int) = r.length := by omega
    go_enter Tryz.func61, Tryz.ntmps61
    go_wp2_with fail
    go_ret
    exact ⟨rfl, 0, rfl⟩

set_option maxHeartbeats 2000000 in
set_option maxRecDepth 100000 in
theorem equal_dig (A B : Option Addr) (c d : Nat) (l r : List (List UInt8)) (w : World) (hl : RL w A 32 l.length (l.flatMap fun x => bys x)) (hr : RL w B 32 r.length (r.flatMap fun x => bys x)) (hn : l.length ≤ 1048576) (hn2 : r.length ≤ 1048576) (hll : ∀ d ∈ l, d.length = 32) (hrl : ∀ d ∈ r, d.length = 32) :
    Calls Tryz.prog 60 #[.slice A l.length c, .slice B r.length d] w fun e w' => e = .returned (.bool (decide (l = r))) ∧ ∃ n, w' = w.drewN n := by
  have Hl := Lib.hid hl
  have Hr := Lib.hid hr
  have Hll := Lib.hid hll
  have Hrl := Lib.hid hrl
  clear hll hrl
  clear hl hr
  by_cases he : l.length = r.length
  · go_enter Tryz.func60, Tryz.ntmps60
    go_wp2_with fail
    go_loopw [5, 13] (fun _ iv wr => ∃ k : Nat, k ≤ l.length ∧ iv = .int .i64 k ∧ l.take k = r.take k ∧ ∃ n, wr = w.drewN n) (fun _ iv _ => l.length - (intOf iv).toNat)
    case atStart => exact ⟨0, by omega, rfl, by simp, 0, rfl⟩
    case round =>
      obtain ⟨k, hk, rfl, hall, m, rfl⟩ := hrel
      by_cases hp : k < l.length
      · obtain ⟨x, hx⟩ : ∃ x, l[k]? = some x := ⟨_, List.getElem?_eq_getElem hp⟩
        obtain ⟨y, hy⟩ : ∃ y, r[k]? = some y := ⟨_, List.getElem?_eq_getElem (by omega)⟩
        obtain ⟨b1, o1, rfl, hc1⟩ := RL.at_ (size := 32) (f := fun x => bys x) (fun x hm => by rw [bys_length]; exact (Hll.out) x hm) (Hl.out) hx
        obtain ⟨b2, o2, rfl, hc2⟩ := RL.at_ (size := 32) (f := fun x => bys x) (fun x hm => by rw [bys_length]; exact (Hrl.out) x hm) (Hr.out) hy
        have Hx := Lib.hid hx
        have Hy := Lib.hid hy
        have Hall := Lib.hid hall
        have hx32 := (Hll.out) x (List.mem_of_getElem? hx)
        have hy32 := (Hrl.out) y (List.mem_of_getElem? hy)
        have hl1 := fun n => ld_mid (w.drewN n) b1 (o1 + k * 32) x hx32 hc1
        have hl2 := fun n => ld_mid (w.drewN n) b2 (o2 + k * 32) y hy32 hc2
        have hne := fun w => neq_dig x y hx32 hy32 w
        have hgp := guard_digest
        clear hx32 hy32
        clear hx hy hall hc1 hc2
        by_cases hxy : x = y
        · have hdec : decide (x = y) = true := decide_eq_true hxy
          simp only [hdec] at hne
          have Hxy := Lib.hid hxy
          clear hxy hdec
          go_wp2_with fail
          go_quiet (fail)
          go_wp2_with fail
          go_roundw
          case rel => exact ⟨k + 1, by omega, by go_num, take_more Hall.out Hx.out (Hxy.out ▸ Hy.out), m + nq, by first | rfl | rw [World.drewN_drewN]⟩
          case measure => simp [intOf]; omega
        · have hdec : decide (x = y) = false := decide_eq_false hxy
          simp only [hdec] at hne
          have Hxy := Lib.hid hxy
          clear hxy hdec
          go_wp2_with fail
          go_quiet (fail)
          go_wp2_with fail
          go_ret
          refine ⟨ret_bool ?_, m + nq, by first | rfl | rw [World.drewN_drewN]⟩
          refine (decide_eq_false fun e => ?_).symm
          subst e
          have := (Hx.out).symm.trans (Hy.out)
          injection this with this
          exact Hxy.out this
      · obtain rfl : k = l.length := by omega
        have Hall := Lib.hid hall
        clear hall
        go_wp2_with fail
        go_ret
        refine ⟨ret_bool ?_, m, rfl⟩
        refine (decide_eq_true ?_).symm
        have := Hall.out
        rwa [List.take_of_length_le (Nat.le_refl _), List.take_of_length_le (by omega)] at this
  · have hd : decide (l = r) = false := decide_eq_false fun e => he (by rw [e])
    rw [hd]
    clear hd
    have hne : ¬ (l.length : Int) = r.length := by omega
    go_enter Tryz.func60, Tryz.ntmps60
    go_wp2_with fail
    go_ret
    exact ⟨rfl, 0, rfl⟩
end Go.Proofs.YthkfcfkkamffpaaGreat
namespace Go.Proofs.YthkfcfkkamffpaaGreat
open Go.RowKit
set_option linter.unusedVariables false
set_option linter.unusedSimpArgs false
open Wm (M)
attribute [local go_sem ↓] ld_dig st_dig ld_head st_head ld_entry st_entry

theorem size_dig : (Tryz.prog.info? 27).map (·.size) = some 32 := by kernel_rfl
def hc (n : Nat) (d : List UInt8) : Array Value := (.int .u64 n :: bys d).toArray
theorem hc_dig (n : Nat) (d : List UInt8) (h : d.length = 32) : (hc n d).extract 1 (1 + 32) = (bys d).toArray := by
  have hb : (bys d).length = 32 := by rw [bys_length, h]
  unfold hc
  rw [List.extract_toArray]
  congr 1
  simp [hb, List.take_of_length_le]
theorem ec_dig (v : Nat) (d : List UInt8) (c : Nat) (n : List UInt8) (h : d.length = 32) : (ecells v d c n).toArray.extract 1 (1 + 32) = (bys d).toArray := by
  have hb : (bys d).length = 32 := by rw [bys_length, h]
  unfold ecells
  rw [List.extract_toArray]
  congr 1
  simp [hb, List.take_append, List.take_of_length_le]
theorem ec_at (v : Nat) (d : List UInt8) (c : Nat) (n : List UInt8) (h : d.length = 32) : (ecells v d c n).toArray[33]? = some (.int .u64 c) ∧ (ecells v d c n).toArray[34]? = some (S n) := by
  have hb : (bys d).length = 32 := by rw [bys_length, h]
  have key : ∀ k, (ecells v d c n).toArray[33 + k]? = ([.int .u64 c, S n] : List Value)[k]? := fun k => by
    unfold ecells
    rw [List.getElem?_toArray, show 33 + k = (32 + k) + 1 by omega, List.getElem?_cons_succ, List.getElem?_append_right (by omega), hb, show 32 + k - 32 = k by omega]
  exact ⟨key 0, key 1⟩
theorem digB (d : Nat) (a b : List UInt8) (ha : a.length = 32) (hb : b.length = 32) (w : World) : (Op.equalIn (d + 2) 27 (.agg (bys a).toArray) (.agg (bys b).toArray)).run Tryz.prog w = .ok (decide (a = b)) w := by
  rw [run_equalIn_bytes d _ 5 a b 32 under_digest Tryz.underlying5 size_byte ha hb w, show (a == b) = decide (a = b) by rw [Bool.eq_iff_iff]; simp]
theorem eql_head (a b : Nat) (d e : List UInt8) (hd : d.length = 32) (he : e.length = 32) (w : World) : (binOp .eql 29 (.agg (hc a d)) (.agg (hc b e))).run Tryz.prog w = .ok (.bool (decide (a = b ∧ d = e))) w := by
  have key : (Op.equalIn (9999 + 1) 29 (.agg (hc a d)) (.agg (hc b e))).run Tryz.prog w = .ok (decide (a = b) && (decide (d = e) && true)) w := by
    rw [run_equalIn_agg w 9999 _ _ _ (by kernel_rfl) (by kernel_rfl), fields_of Tryz.underlying29]
    refine eqf_step w (by decide) (part_one w _ _ _ _ (.int .u64 a) Tryz.underlying25 rfl rfl) (part_one w _ _ _ _ (.int .u64 b) Tryz.underlying25 rfl rfl) (by rw [run_equalIn_int w _ _ _ _ _ _ Tryz.underlying25, natB]) ?_
    refine eqf_step w (by decide) (part_agg w _ _ 32 _ _ 1 under_digest rfl size_dig (hc_dig a d hd)) (part_agg w _ _ 32 _ _ 1 under_digest rfl size_dig (hc_dig b e he)) (digB 9997 d e hd he w) ?_
    exact eqf_nil w
  rw [run_eql_struct, key]
  simp
theorem eql_entry (a b : Nat) (d e : List UInt8) (c g : Nat) (n o : List UInt8) (hd : d.length = 32) (he : e.length = 32) (w : World) : (binOp .eql 31 (.agg (ecells a d c n).toArray) (.agg (ecells b e g o).toArray)).run Tryz.prog w = .ok (.bool (decide (a = b ∧ d = e ∧ c = g ∧ n = o))) w := by
  obtain ⟨a1, a2⟩ := ec_at a d c n hd
  obtain ⟨b1, b2⟩ := ec_at b e g o he
  have key : (Op.equalIn (9999 + 1) 31 (.agg (ecells a d c n).toArray) (.agg (ecells b e g o).toArray)).run Tryz.prog w = .ok (decide (a = b) && (decide (d = e) && (decide (c = g) && (decide (n = o) && true)))) w := by
    rw [run_equalIn_agg w 9999 _ _ _ (by kernel_rfl) (by kernel_rfl), fields_of Tryz.underlying31]
    refine eqf_step w (by decide) (part_one w _ _ _ _ (.int .u64 a) Tryz.underlying25 rfl rfl) (part_one w _ _ _ _ (.int .u64 b) Tryz.underlying25 rfl rfl) (by rw [run_equalIn_int w _ _ _ _ _ _ Tryz.underlying25, natB]) ?_
    refine eqf_step w (by decide) (part_agg w _ _ 32 _ _ 1 under_digest rfl size_dig (ec_dig a d c n hd)) (part_agg w _ _ 32 _ _ 1 under_digest rfl size_dig (ec_dig b e g o he)) (digB 9997 d e hd he w) ?_
    refine eqf_step w (by decide) (part_one w _ _ _ _ (.int .u64 c) Tryz.underlying25 rfl a1) (part_one w _ _ _ _ (.int .u64 g) Tryz.underlying25 rfl b1) (by rw [run_equalIn_int w _ _ _ _ _ _ Tryz.underlying25, natB]) ?_
    refine eqf_step w (by decide) (part_one w _ _ _ _ (S n) Tryz.underlying9 rfl a2) (part_one w _ _ _ _ (S o) Tryz.underlying9 rfl b2) (by rw [run_equalIn_string w _ _ _ _ Tryz.underlying9, strB]) ?_
    exact eqf_nil w
  rw [run_eql_struct, key]
  simp
theorem RL.drewN {w : World} {A : Option Addr} {size n : Nat} {xs : List Value} (h : RL w A size n xs) (k : Nat) : RL (w.drewN k) A size n xs := h
theorem IsM.drewN {w : World} {g : Nat} {m : M} {L : Ls} (h : IsM w g m L) (k : Nat) : IsM (w.drewN k) g m L := h
theorem drew_zero (W : World) : ∃ k, W = W.drewN k := ⟨0, rfl⟩
theorem same_list {α : Type} [DecidableEq α] {F : FuncId} {args : Array Value} {l r : List α} {W2 : World} (h : ∀ k, Calls Tryz.prog F args (W2.drewN k) fun e w' => e = .returned (.bool (decide (l = r))) ∧ ∃ n, w' = (W2.drewN k).drewN n) (q : Bool) (hq : decide (l = r) = q) :
    ∀ W, (∃ k, W = W2.drewN k) → Calls Tryz.prog F args W fun e w' => e = .returned (.bool q) ∧ ∃ n, w' = W2.drewN n := by
  rintro W ⟨k, rfl⟩
  subst hq
  exact (h k).mono fun e w' ⟨h1, n, h2⟩ => ⟨h1, k + n, by rw [h2, World.drewN_drewN]⟩
end Go.Proofs.YthkfcfkkamffpaaGreat
