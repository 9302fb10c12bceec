/-
  Layer 27: lists of ints, pairs, digests: each of them laid; is there one that may not be? Printed by gen_wl.py.
-/
import Derived.Test.YthkfcfkkamffpaaGreatWi
import Derived.Deep.WholeRow
namespace Go.Proofs.YthkfcfkkamffpaaGreat
open Go.RowKit
set_option linter.unusedVariables false
set_option linter.unusedSimpArgs false
open Wm (M Fd)
attribute [local go_sem ↓] ld_dig st_dig

/-- a slice of n elements of so many cells reads as the list xs -/
def RL (w : World) (A : Option Addr) (size n : Nat) (xs : List Value) : Prop :=
  xs.length = n * size ∧ (0 < n → ∃ b off, A = some ⟨b, off, none⟩ ∧ ∀ j u, xs[j]? = some u → w.cell? ⟨b, off + j, none⟩ = some u)
/-- no block of S holds the slice -/
def Off (S : Nat → Prop) (A : Option Addr) (n : Nat) : Prop := ∀ b off, 0 < n → A = some ⟨b, off, none⟩ → ¬ S b
theorem RL.chg {S : Nat → Prop} {w w' : World} {A : Option Addr} {size n : Nat} {xs : List Value} (h : RL w A size n xs) (hc : Chg S w w') (hs : Off S A n) : RL w' A size n xs :=
  ⟨h.1, fun hn => by
    obtain ⟨b, off, rfl, hcell⟩ := h.2 hn
    exact ⟨b, off, rfl, fun j u hu => keepC hc (hs b off hn rfl) (hcell j u hu)⟩⟩
theorem RL.lt {w : World} {A : Option Addr} {size n : Nat} {xs : List Value} (h : RL w A size n xs) (hz : 0 < size) : ∀ b off, 0 < n → A = some ⟨b, off, none⟩ → b < w.heap.size := by
  rintro b off hn rfl
  obtain ⟨b', off', e, hcell⟩ := h.2 hn
  injection e with e
  injection e with e1 e2
  subst e1 e2
  have hl : 0 < xs.length := by rw [h.1]; exact Nat.mul_pos hn hz
  exact World.block_lt_of_cell? _ _ (hcell 0 _ (List.getElem?_eq_getElem hl))
theorem RL.at_ {α : Type} {w : World} {A : Option Addr} {size : Nat} {l : List α} {f : α → List Value} (hf : ∀ x ∈ l, (f x).length = size) (h : RL w A size l.length (l.flatMap f)) {k : Nat} {x : α} (hx : l[k]? = some x) :
    ∃ b off, A = some ⟨b, off, none⟩ ∧ ∀ j u, (f x)[j]? = some u → w.cell? ⟨b, off + k * size + j, none⟩ = some u := by
  have hk := (List.getElem?_eq_some_iff.1 hx).1
  obtain ⟨b, off, rfl, hcell⟩ := h.2 (by omega)
  refine ⟨b, off, rfl, fun j u hu => ?_⟩
  have hp : ∀ (l : List α), (∀ x ∈ l, (f x).length = size) → ∀ (k : Nat) (x : α), l[k]? = some x → ∀ j u, (f x)[j]? = some u → (l.flatMap f)[k * size + j]? = some u := by
    intro l
    induction l with
    | nil => intro _ k x h; simp at h
    | cons y l ih =>
      intro hl k x hx j u hu
      have hy := hl y (by simp)
      cases k with
      | zero =>
        simp at hx
        subst hx
        rw [List.flatMap_cons, Nat.zero_mul, Nat.zero_add, List.getElem?_append_left (List.getElem?_eq_some_iff.1 hu).1]
        exact hu
      | succ k =>
        rw [List.flatMap_cons, List.getElem?_append_right (by rw [hy, Nat.succ_mul]; omega), hy, show (k + 1) * size + j - size = k * size + j by rw [Nat.succ_mul]; omega]
        exact ih (fun x hx => hl x (by simp [hx])) k x (by simpa using hx) j u hu
  have := hcell (k * size + j) u (hp l hf k x hx j u hu)
  rwa [← Nat.add_assoc] at this
theorem flat_drop {α : Type} {l : List α} {f : α → List UInt8} {k : Nat} {x : α} (hx : l[k]? = some x) : (l.drop k).flatMap f = f x ++ (l.drop (k + 1)).flatMap f := by
  have hk := (List.getElem?_eq_some_iff.1 hx).1
  rw [List.drop_eq_getElem_cons hk, List.flatMap_cons, (List.getElem?_eq_some_iff.1 hx).2]
theorem any_drop {α : Type} {l : List α} {p : α → Bool} {k : Nat} {x : α} (hx : l[k]? = some x) : (l.drop k).all p = (p x && (l.drop (k + 1)).all p) := by
  have hk := (List.getElem?_eq_some_iff.1 hx).1
  rw [List.drop_eq_getElem_cons hk, List.all_cons, (List.getElem?_eq_some_iff.1 hx).2]

set_option maxHeartbeats 2000000 in
set_option maxRecDepth 100000 in
theorem each_int (g F : Nat) (A : Option Addr) (c : Nat) (l : List Int) (bts : Int → List UInt8) (v : Value) (xs : List UInt8) (w : World) (h : IsW w g v xs)
    (hl : RL w A 1 l.length (l.flatMap fun x => [.int .i64 x])) (ho : Off (fun k => k = g ∨ v.ownBlock = some k) A l.length) (hn : l.length ≤ 1048576) (hroom : xs.length + 10 + (l.flatMap bts).length ≤ 1000000000)
    (hF : ∀ (args : Array Value) (w : World), (callFunc F args).run Tryz.prog w = .ok (.enter F args) w)
    (hone : ∀ x ∈ l, ∀ (v : Value) (xs : List UInt8) (w : World), IsW w g v xs → xs.length + (bts x).length ≤ 1000000000 → Calls Tryz.prog F #[pt g, .int .i64 x] w fun e w' => e = .returned (.tuple #[]) ∧ Wrote w w' g v (xs ++ bts x)) :
    Calls Tryz.prog 112 #[pt g, .slice A l.length c, fn0 F] w fun e w' => e = .returned (.tuple #[]) ∧ Wrote w w' g v (xs ++ (Pk.free l.length ++ l.flatMap bts)) := by
  have c0 : w.cell? ⟨g, 0, none⟩ = some (.bool true) := by rw [h.blk.cell]; rfl
  have Hone := Lib.hid hone
  have hfl : (Pk.free l.length).length ≤ 10 := Pk.free_length_ten (by omega)
  have hfn : ∀ w : World, (binOp .eql 140 (.func (.func F) #[] #[]) .nilFunc).run Tryz.prog w = .ok (.bool false) w := fun _ => by kernel_rfl
  have Hlt := Lib.hid (hl.lt (by omega))
  have Hl := Lib.hid hl
  have Ho := Lib.hid ho
  have HW := Lib.hid (free_calls g l.length v xs w h (by unfold U64; omega) (by omega))
  clear hone hl ho
  go_enter Tryz.func112, Tryz.ntmps112
  go_wp2_with fail
  refine (HW.out).mono ?_
  rintro e w1 ⟨rfl, v1, h1, hc1, hv1⟩
  go_wp2_with fail
  go_loopw [7, 26] (fun _ iv wr => ∃ (k : Nat) (ys : List UInt8) (v2 : Value), k ≤ l.length ∧ iv = .int .i64 k ∧ IsW wr g v2 ys ∧ ys ++ (l.drop k).flatMap bts = xs ++ (Pk.free l.length ++ l.flatMap bts) ∧
      Chg (fun k => k = g ∨ v.ownBlock = some k) w wr ∧ ∀ k, v2.ownBlock = some k → v.ownBlock = some k ∨ w.heap.size ≤ k) (fun _ iv _ => l.length - (intOf iv).toNat)
  case atStart => exact ⟨0, _, v1, by omega, rfl, h1, by simp, hc1, hv1⟩
  case round =>
    obtain ⟨k, ys, v2, hk, rfl, h2, hcat, hchg, hv2⟩ := hrel
    by_cases hp : k < l.length
    · obtain ⟨x, hx⟩ : ∃ x, l[k]? = some x := ⟨_, List.getElem?_eq_getElem hp⟩
      obtain ⟨b, off, rfl, hcell⟩ := RL.at_ (size := 1) (f := fun x => [.int .i64 x]) (fun x hm => rfl) ((Hl.out).chg hchg Ho.out) hx
      rw [flat_drop hx] at hcat
      have hlen : ys.length + (bts x).length ≤ 1000000000 := by
        have := congrArg List.length hcat; simp at this; simp at hroom; omega
      have d0 := hcell 0 _ rfl
      rw [Nat.mul_one, Nat.add_zero] at d0
      have Hcat := Lib.hid hcat
      have Hone' := Lib.hid ((Hone.out) x (List.mem_of_getElem? hx) v2 ys)
      have Hh2 := Lib.hid h2
      have Hchg := Lib.hid hchg
      have Hv2 := Lib.hid hv2
      clear hcat hx hcell h2 hchg hv2 h1 hc1 hv1
      go_wp2_with fail
      refine ((Hone'.out) _ (Hh2.out) hlen).mono ?_
      rintro e w2 ⟨rfl, hw2⟩
      go_wp2_with fail
      go_roundw
      case rel =>
        obtain ⟨v3, h3, hc3, hv3⟩ := wrote_then (Hchg.out) Hv2.out hw2
        refine ⟨k + 1, ys ++ bts x, v3, by omega, by go_num, h3, ?_, hc3, hv3⟩
        have := Hcat.out
        simpa using this
      case measure => simp [intOf]; omega
    · obtain rfl : k = l.length := by omega
      have Hcat := Lib.hid hcat
      clear hcat
      go_wp2_with fail
      go_end0
      refine ⟨rfl, v2, ?_, hchg, hv2⟩
      have := Hcat.out
      rw [List.drop_length] at this
      simp only [List.flatMap_nil, List.append_nil] at this
      rw [← this]
      exact h2

set_option maxHeartbeats 2000000 in
set_option maxRecDepth 100000 in
theorem each_pair (g F : Nat) (A : Option Addr) (c : Nat) (l : List (List UInt8 × List UInt8)) (bts : (List UInt8 × List UInt8) → List UInt8) (v : Value) (xs : List UInt8) (w : World) (h : IsW w g v xs)
    (hl : RL w A 2 l.length (l.flatMap fun x => [S x.1, S x.2])) (ho : Off (fun k => k = g ∨ v.ownBlock = some k) A l.length) (hn : l.length ≤ 1048576) (hroom : xs.length + 10 + (l.flatMap bts).length ≤ 1000000000)
    (hF : ∀ (args : Array Value) (w : World), (callFunc F args).run Tryz.prog w = .ok (.enter F args) w)
    (hone : ∀ x ∈ l, ∀ (v : Value) (xs : List UInt8) (w : World), IsW w g v xs → xs.length + (bts x).length ≤ 1000000000 → Calls Tryz.prog F #[pt g, .agg #[S x.1, S x.2]] w fun e w' => e = .returned (.tuple #[]) ∧ Wrote w w' g v (xs ++ bts x)) :
    Calls Tryz.prog 167 #[pt g, .slice A l.length c, fn0 F] w fun e w' => e = .returned (.tuple #[]) ∧ Wrote w w' g v (xs ++ (Pk.free l.length ++ l.flatMap bts)) := by
  have c0 : w.cell? ⟨g, 0, none⟩ = some (.bool true) := by rw [h.blk.cell]; rfl
  have Hone := Lib.hid hone
  have hfl : (Pk.free l.length).length ≤ 10 := Pk.free_length_ten (by omega)
  have hfn : ∀ w : World, (binOp .eql 164 (.func (.func F) #[] #[]) .nilFunc).run Tryz.prog w = .ok (.bool false) w := fun _ => by kernel_rfl
  have Hlt := Lib.hid (hl.lt (by omega))
  have Hl := Lib.hid hl
  have Ho := Lib.hid ho
  have HW := Lib.hid (free_calls g l.length v xs w h (by unfold U64; omega) (by omega))
  clear hone hl ho
  go_enter Tryz.func167, Tryz.ntmps167
  go_wp2_with fail
  refine (HW.out).mono ?_
  rintro e w1 ⟨rfl, v1, h1, hc1, hv1⟩
  go_wp2_with fail
  go_loopw [7, 26] (fun _ iv wr => ∃ (k : Nat) (ys : List UInt8) (v2 : Value), k ≤ l.length ∧ iv = .int .i64 k ∧ IsW wr g v2 ys ∧ ys ++ (l.drop k).flatMap bts = xs ++ (Pk.free l.length ++ l.flatMap bts) ∧
      Chg (fun k => k = g ∨ v.ownBlock = some k) w wr ∧ ∀ k, v2.ownBlock = some k → v.ownBlock = some k ∨ w.heap.size ≤ k) (fun _ iv _ => l.length - (intOf iv).toNat)
  case atStart => exact ⟨0, _, v1, by omega, rfl, h1, by simp, hc1, hv1⟩
  case round =>
    obtain ⟨k, ys, v2, hk, rfl, h2, hcat, hchg, hv2⟩ := hrel
    by_cases hp : k < l.length
    · obtain ⟨x, hx⟩ : ∃ x, l[k]? = some x := ⟨_, List.getElem?_eq_getElem hp⟩
      obtain ⟨b, off, rfl, hcell⟩ := RL.at_ (size := 2) (f := fun x => [S x.1, S x.2]) (fun x hm => rfl) ((Hl.out).chg hchg Ho.out) hx
      rw [flat_drop hx] at hcat
      have hlen : ys.length + (bts x).length ≤ 1000000000 := by
        have := congrArg List.length hcat; simp at this; simp at hroom; omega
      have d0 := hcell 0 _ rfl
      have d1 := hcell 1 _ rfl
      rw [Nat.add_zero] at d0
      have Hcat := Lib.hid hcat
      have Hone' := Lib.hid ((Hone.out) x (List.mem_of_getElem? hx) v2 ys)
      have Hh2 := Lib.hid h2
      have Hchg := Lib.hid hchg
      have Hv2 := Lib.hid hv2
      clear hcat hx hcell h2 hchg hv2 h1 hc1 hv1
      go_wp2_with fail
      refine ((Hone'.out) _ ⟨(Hh2.out).blk.alloc _, (Hh2.out).own.alloc _⟩ hlen).mono ?_
      rintro e w2 ⟨rfl, hw2⟩
      go_wp2_with fail
      go_roundw
      case rel =>
        obtain ⟨v3, h3, hc3, hv3⟩ := wrote_then ((Hchg.out).alloc _) Hv2.out hw2
        refine ⟨k + 1, ys ++ bts x, v3, by omega, by go_num, h3, ?_, hc3, hv3⟩
        have := Hcat.out
        simpa using this
      case measure => simp [intOf]; omega
    · obtain rfl : k = l.length := by omega
      have Hcat := Lib.hid hcat
      clear hcat
      go_wp2_with fail
      go_end0
      refine ⟨rfl, v2, ?_, hchg, hv2⟩
      have := Hcat.out
      rw [List.drop_length] at this
      simp only [List.flatMap_nil, List.append_nil] at this
      rw [← this]
      exact h2

/-- a digest stored right behind its place was made -/
theorem stD_new (u : World) (cs : Array Value) (h : cs.size = 32) (x : List UInt8) (hx : x.length = 32) : (stAgg 27 (.pointer (some ⟨u.heap.size, 0, none⟩)) (.agg (bys x).toArray)).run Tryz.prog (u.alloc (.cells cs 27)) = .ok () (u.alloc (.cells (bys x).toArray 27)) := by
  have hb := Blk.new u 27 cs
  have := stAgg_of (P := Tryz.prog) (t := 27) (off := 0) (cs := (bys x).toArray) hb (by rw [bysz x hx]; exact info_dig) (by rw [bysz x hx, h]; omega) (one_bys x)
  have hd : cs.toList.drop (0 + (bys x).toArray.size) = [] := List.drop_eq_nil_of_le (by rw [bysz x hx]; simp [h])
  rw [hd, List.take_zero, List.nil_append, List.append_nil, Array.toArray_toList, World.setRow_alloc_new] at this
  exact this
theorem ldD_new (w : World) (x : List UInt8) (hx : x.length = 32) : (ldAgg 27 (.pointer (some ⟨w.heap.size, 0, none⟩))).run Tryz.prog (w.alloc (.cells (bys x).toArray 27)) = .ok (.agg (bys x).toArray) (w.alloc (.cells (bys x).toArray 27)) :=
  ld_mid _ _ 0 x hx (fun j v hv => by rw [Nat.zero_add, (Blk.new w _ _).cell]; simpa using hv)

set_option maxHeartbeats 2000000 in
set_option maxRecDepth 100000 in
theorem each_dig (g F : Nat) (A : Option Addr) (c : Nat) (l : List (List UInt8)) (bts : (List UInt8) → List UInt8) (v : Value) (xs : List UInt8) (w : World) (h : IsW w g v xs)
    (hl : RL w A 32 l.length (l.flatMap fun x => bys x)) (hlen : ∀ d ∈ l, d.length = 32) (ho : Off (fun k => k = g ∨ v.ownBlock = some k) A l.length) (hn : l.length ≤ 1048576) (hroom : xs.length + 10 + (l.flatMap bts).length ≤ 1000000000)
    (hF : ∀ (args : Array Value) (w : World), (callFunc F args).run Tryz.prog w = .ok (.enter F args) w)
    (hone : ∀ x ∈ l, ∀ (v : Value) (xs : List UInt8) (w : World), IsW w g v xs → xs.length + (bts x).length ≤ 1000000000 → Calls Tryz.prog F #[pt g, .agg (bys x).toArray] w fun e w' => e = .returned (.tuple #[]) ∧ Wrote w w' g v (xs ++ bts x)) :
    Calls Tryz.prog 184 #[pt g, .slice A l.length c, fn0 F] w fun e w' => e = .returned (.tuple #[]) ∧ Wrote w w' g v (xs ++ (Pk.free l.length ++ l.flatMap bts)) := by
  have c0 : w.cell? ⟨g, 0, none⟩ = some (.bool true) := by rw [h.blk.cell]; rfl
  have Hone := Lib.hid hone
  have hfl : (Pk.free l.length).length ≤ 10 := Pk.free_length_ten (by omega)
  have hfn : ∀ w : World, (binOp .eql 172 (.func (.func F) #[] #[]) .nilFunc).run Tryz.prog w = .ok (.bool false) w := fun _ => by kernel_rfl
  have Hlt := Lib.hid (hl.lt (by omega))
  have Hl := Lib.hid hl
  have Ho := Lib.hid ho
  have Hhl := Lib.hid hlen
  clear hlen
  have HW := Lib.hid (free_calls g l.length v xs w h (by unfold U64; omega) (by omega))
  clear hone hl ho
  go_enter Tryz.func184, Tryz.ntmps184
  go_wp2_with fail
  refine (HW.out).mono ?_
  rintro e w1 ⟨rfl, v1, h1, hc1, hv1⟩
  go_wp2_with fail
  go_loopw [7, 26] (fun _ iv wr => ∃ (k : Nat) (ys : List UInt8) (v2 : Value), k ≤ l.length ∧ iv = .int .i64 k ∧ IsW wr g v2 ys ∧ ys ++ (l.drop k).flatMap bts = xs ++ (Pk.free l.length ++ l.flatMap bts) ∧
      Chg (fun k => k = g ∨ v.ownBlock = some k) w wr ∧ ∀ k, v2.ownBlock = some k → v.ownBlock = some k ∨ w.heap.size ≤ k) (fun _ iv _ => l.length - (intOf iv).toNat)
  case atStart => exact ⟨0, _, v1, by omega, rfl, h1, by simp, hc1, hv1⟩
  case round =>
    obtain ⟨k, ys, v2, hk, rfl, h2, hcat, hchg, hv2⟩ := hrel
    by_cases hp : k < l.length
    · obtain ⟨x, hx⟩ : ∃ x, l[k]? = some x := ⟨_, List.getElem?_eq_getElem hp⟩
      obtain ⟨b, off, rfl, hcell⟩ := RL.at_ (size := 32) (f := fun x => bys x) (fun x hm => by rw [bys_length]; exact (Hhl.out) x hm) ((Hl.out).chg hchg Ho.out) hx
      rw [flat_drop hx] at hcat
      have hlen : ys.length + (bts x).length ≤ 1000000000 := by
        have := congrArg List.length hcat; simp at this; simp at hroom; omega
      have hd32 := (Hhl.out) x (List.mem_of_getElem? hx)
      have hld := ld_mid wr b (off + k * 32) x hd32 hcell
      have hsa := stD_new wr #[.int .u8 0, .int .u8 0, .int .u8 0, .int .u8 0, .int .u8 0, .int .u8 0, .int .u8 0, .int .u8 0, .int .u8 0, .int .u8 0, .int .u8 0, .int .u8 0, .int .u8 0, .int .u8 0, .int .u8 0, .int .u8 0, .int .u8 0, .int .u8 0, .int .u8 0, .int .u8 0, .int .u8 0, .int .u8 0, .int .u8 0, .int .u8 0, .int .u8 0, .int .u8 0, .int .u8 0, .int .u8 0, .int .u8 0, .int .u8 0, .int .u8 0, .int .u8 0] rfl x hd32
      have hla := ldD_new wr x hd32
      clear hd32
      have Hcat := Lib.hid hcat
      have Hone' := Lib.hid ((Hone.out) x (List.mem_of_getElem? hx) v2 ys)
      have Hh2 := Lib.hid h2
      have Hchg := Lib.hid hchg
      have Hv2 := Lib.hid hv2
      clear hcat hx hcell h2 hchg hv2 h1 hc1 hv1
      go_wp2_with fail
      refine ((Hone'.out) _ ⟨(Hh2.out).blk.alloc _, (Hh2.out).own.alloc _⟩ hlen).mono ?_
      rintro e w2 ⟨rfl, hw2⟩
      go_wp2_with fail
      go_roundw
      case rel =>
        obtain ⟨v3, h3, hc3, hv3⟩ := wrote_then ((Hchg.out).alloc _) Hv2.out hw2
        refine ⟨k + 1, ys ++ bts x, v3, by omega, by go_num, h3, ?_, hc3, hv3⟩
        have := Hcat.out
        simpa using this
      case measure => simp [intOf]; omega
    · obtain rfl : k = l.length := by omega
      have Hcat := Lib.hid hcat
      clear hcat
      go_wp2_with fail
      go_end0
      refine ⟨rfl, v2, ?_, hchg, hv2⟩
      have := Hcat.out
      rw [List.drop_length] at this
      simp only [List.flatMap_nil, List.append_nil] at this
      rw [← this]
      exact h2

set_option maxHeartbeats 2000000 in
set_option maxRecDepth 100000 in
theorem index_int (F : Nat) (caps : Array Value) (A : Option Addr) (c : Nat) (l : List Int) (p : Int → Bool) (w : World)
    (hl : RL w A 1 l.length (l.flatMap fun x => [.int .i64 x])) (hn : l.length ≤ 1048576)
    (hF : ∀ (args : Array Value) (w : World), (callFunc F args).run Tryz.prog w = .ok (.enter F args) w)
    (hone : ∀ x ∈ l, ∀ (w' : World), Chg (fun _ => False) w w' → Calls Tryz.prog F (#[.int .i64 x] ++ caps) w' fun e w'' => e = .returned (.bool (!(p x))) ∧ Chg (fun _ => False) w' w'') :
    Calls Tryz.prog 149 #[.slice A l.length c, .func (.func F) #[] caps] w fun e w' => ∃ i : Int, e = .returned (.int .i64 i) ∧ (0 ≤ i ↔ l.all p = false) ∧ -1 ≤ i ∧ Chg (fun _ => False) w w' := by
  have Hone := Lib.hid hone
  have Hl := Lib.hid hl
  clear hone hl
  go_enter Tryz.func149, Tryz.ntmps149
  go_wp2_with fail
  go_loopw [5, 8] (fun _ iv wr => ∃ k : Nat, k ≤ l.length ∧ iv = .int .i64 k ∧ (l.drop k).all p = l.all p ∧ Chg (fun _ => False) w wr) (fun _ iv _ => l.length - (intOf iv).toNat)
  case atStart => exact ⟨0, by omega, rfl, by simp, Chg.refl _ _⟩
  case round =>
    obtain ⟨k, hk, rfl, hall, hchg⟩ := hrel
    by_cases hp : k < l.length
    · obtain ⟨x, hx⟩ : ∃ x, l[k]? = some x := ⟨_, List.getElem?_eq_getElem hp⟩
      obtain ⟨b, off, rfl, hcell⟩ := RL.at_ (size := 1) (f := fun x => [.int .i64 x]) (fun x hm => rfl) ((Hl.out).chg hchg (fun _ _ _ _ h => h)) hx
      rw [any_drop hx] at hall
      have d0 := hcell 0 _ rfl
      rw [Nat.mul_one, Nat.add_zero] at d0
      have Hone' := Lib.hid ((Hone.out) x (List.mem_of_getElem? hx))
      have Hchg := Lib.hid hchg
      have Hall := Lib.hid hall
      obtain ⟨q, hq⟩ : ∃ q, p x = q := ⟨_, rfl⟩
      rw [hq] at Hone' Hall
      clear hx hcell hchg hall hq
      cases q
      · go_wp2_with fail
        refine ((Hone'.out) _ (Hchg.out)).mono ?_
        rintro e w2 ⟨rfl, hc2⟩
        go_wp2_with fail
        go_ret
        exact ⟨k, rfl, ⟨fun _ => by rw [← Hall.out]; rfl, fun _ => by omega⟩, by omega, ((Hchg.out).trans hc2)⟩
      · go_wp2_with fail
        refine ((Hone'.out) _ (Hchg.out)).mono ?_
        rintro e w2 ⟨rfl, hc2⟩
        go_wp2_with fail
        go_roundw
        case rel => exact ⟨k + 1, by omega, by go_num, by rw [← Hall.out]; rfl, ((Hchg.out).trans hc2)⟩
        case measure => simp [intOf]; omega
    · obtain rfl : k = l.length := by omega
      have Hall := Lib.hid (show l.all p = true by rw [← hall, List.drop_length]; rfl)
      clear hall
      go_wp2_with fail
      go_ret
      exact ⟨-1, rfl, ⟨fun h => by omega, fun h => by rw [Hall.out] at h; cases h⟩, by omega, hchg⟩

set_option maxHeartbeats 1000000 in
set_option maxRecDepth 100000 in
theorem contains_int (F : Nat) (caps : Array Value) (A : Option Addr) (c : Nat) (l : List Int) (p : Int → Bool) (w : World)
    (hl : RL w A 1 l.length (l.flatMap fun x => [.int .i64 x])) (hn : l.length ≤ 1048576)
    (hF : ∀ (args : Array Value) (w : World), (callFunc F args).run Tryz.prog w = .ok (.enter F args) w)
    (hone : ∀ x ∈ l, ∀ (w' : World), Chg (fun _ => False) w w' → Calls Tryz.prog F (#[.int .i64 x] ++ caps) w' fun e w'' => e = .returned (.bool (!(p x))) ∧ Chg (fun _ => False) w' w'') :
    Calls Tryz.prog 117 #[.slice A l.length c, .func (.func F) #[] caps] w fun e w' => e = .returned (.bool (!(l.all p))) ∧ Chg (fun _ => False) w w' := by
  have HI := Lib.hid (index_int F caps A c l p w hl hn hF hone)
  clear hone hl hF
  go_enter Tryz.func117, Tryz.ntmps117
  go_wp2_with fail
  refine (HI.out).mono ?_
  rintro e w2 ⟨i, rfl, hi, hi1, hc2⟩
  have Hi := Lib.hid hi
  clear hi
  go_wp2_with fail
  go_ret
  refine ⟨ret_bool ?_, hc2⟩
  have := Hi.out
  rw [Bool.eq_iff_iff]
  simp only [decide_eq_true_iff, Bool.not_eq_true']
  first | exact this | (constructor <;> intro h <;> first | exact this.1 (by omega) | (have := this.2 h; omega))

set_option maxHeartbeats 2000000 in
set_option maxRecDepth 100000 in
theorem index_pair (F : Nat) (caps : Array Value) (A : Option Addr) (c : Nat) (l : List (List UInt8 × List UInt8)) (p : (List UInt8 × List UInt8) → Bool) (w : World)
    (hl : RL w A 2 l.length (l.flatMap fun x => [S x.1, S x.2])) (hn : l.length ≤ 1048576)
    (hF : ∀ (args : Array Value) (w : World), (callFunc F args).run Tryz.prog w = .ok (.enter F args) w)
    (hone : ∀ x ∈ l, ∀ (w' : World), Chg (fun _ => False) w w' → Calls Tryz.prog F (#[.agg #[S x.1, S x.2]] ++ caps) w' fun e w'' => e = .returned (.bool (!(p x))) ∧ Chg (fun _ => False) w' w'') :
    Calls Tryz.prog 191 #[.slice A l.length c, .func (.func F) #[] caps] w fun e w' => ∃ i : Int, e = .returned (.int .i64 i) ∧ (0 ≤ i ↔ l.all p = false) ∧ -1 ≤ i ∧ Chg (fun _ => False) w w' := by
  have Hone := Lib.hid hone
  have Hl := Lib.hid hl
  clear hone hl
  go_enter Tryz.func191, Tryz.ntmps191
  go_wp2_with fail
  go_loopw [5, 8] (fun _ iv wr => ∃ k : Nat, k ≤ l.length ∧ iv = .int .i64 k ∧ (l.drop k).all p = l.all p ∧ Chg (fun _ => False) w wr) (fun _ iv _ => l.length - (intOf iv).toNat)
  case atStart => exact ⟨0, by omega, rfl, by simp, Chg.refl _ _⟩
  case round =>
    obtain ⟨k, hk, rfl, hall, hchg⟩ := hrel
    by_cases hp : k < l.length
    · obtain ⟨x, hx⟩ : ∃ x, l[k]? = some x := ⟨_, List.getElem?_eq_getElem hp⟩
      obtain ⟨b, off, rfl, hcell⟩ := RL.at_ (size := 2) (f := fun x => [S x.1, S x.2]) (fun x hm => rfl) ((Hl.out).chg hchg (fun _ _ _ _ h => h)) hx
      rw [any_drop hx] at hall
      have d0 := hcell 0 _ rfl
      have d1 := hcell 1 _ rfl
      rw [Nat.add_zero] at d0
      have Hone' := Lib.hid ((Hone.out) x (List.mem_of_getElem? hx))
      have Hchg := Lib.hid hchg
      have Hall := Lib.hid hall
      obtain ⟨q, hq⟩ : ∃ q, p x = q := ⟨_, rfl⟩
      rw [hq] at Hone' Hall
      clear hx hcell hchg hall hq
      cases q
      · go_wp2_with fail
        refine ((Hone'.out) _ (Hchg.out)).mono ?_
        rintro e w2 ⟨rfl, hc2⟩
        go_wp2_with fail
        go_ret
        exact ⟨k, rfl, ⟨fun _ => by rw [← Hall.out]; rfl, fun _ => by omega⟩, by omega, ((Hchg.out).trans hc2)⟩
      · go_wp2_with fail
        refine ((Hone'.out) _ (Hchg.out)).mono ?_
        rintro e w2 ⟨rfl, hc2⟩
        go_wp2_with fail
        go_roundw
        case rel => exact ⟨k + 1, by omega, by go_num, by rw [← Hall.out]; rfl, ((Hchg.out).trans hc2)⟩
        case measure => simp [intOf]; omega
    · obtain rfl : k = l.length := by omega
      have Hall := Lib.hid (show l.all p = true by rw [← hall, List.drop_length]; rfl)
      clear hall
      go_wp2_with fail
      go_ret
      exact ⟨-1, rfl, ⟨fun h => by omega, fun h => by rw [Hall.out] at h; cases h⟩, by omega, hchg⟩

set_option maxHeartbeats 1000000 in
set_option maxRecDepth 100000 in
theorem contains_pair (F : Nat) (caps : Array Value) (A : Option Addr) (c : Nat) (l : List (List UInt8 × List UInt8)) (p : (List UInt8 × List UInt8) → Bool) (w : World)
    (hl : RL w A 2 l.length (l.flatMap fun x => [S x.1, S x.2])) (hn : l.length ≤ 1048576)
    (hF : ∀ (args : Array Value) (w : World), (callFunc F args).run Tryz.prog w = .ok (.enter F args) w)
    (hone : ∀ x ∈ l, ∀ (w' : World), Chg (fun _ => False) w w' → Calls Tryz.prog F (#[.agg #[S x.1, S x.2]] ++ caps) w' fun e w'' => e = .returned (.bool (!(p x))) ∧ Chg (fun _ => False) w' w'') :
    Calls Tryz.prog 172 #[.slice A l.length c, .func (.func F) #[] caps] w fun e w' => e = .returned (.bool (!(l.all p))) ∧ Chg (fun _ => False) w w' := by
  have HI := Lib.hid (index_pair F caps A c l p w hl hn hF hone)
  clear hone hl hF
  go_enter Tryz.func172, Tryz.ntmps172
  go_wp2_with fail
  refine (HI.out).mono ?_
  rintro e w2 ⟨i, rfl, hi, hi1, hc2⟩
  have Hi := Lib.hid hi
  clear hi
  go_wp2_with fail
  go_ret
  refine ⟨ret_bool ?_, hc2⟩
  have := Hi.out
  rw [Bool.eq_iff_iff]
  simp only [decide_eq_true_iff, Bool.not_eq_true']
  first | exact this | (constructor <;> intro h <;> first | exact this.1 (by omega) | (have := this.2 h; omega))

set_option maxHeartbeats 2000000 in
set_option maxRecDepth 100000 in
theorem index_dig (F : Nat) (caps : Array Value) (A : Option Addr) (c : Nat) (l : List (List UInt8)) (p : (List UInt8) → Bool) (w : World)
    (hl : RL w A 32 l.length (l.flatMap fun x => bys x)) (hlen : ∀ d ∈ l, d.length = 32) (hn : l.length ≤ 1048576)
    (hF : ∀ (args : Array Value) (w : World), (callFunc F args).run Tryz.prog w = .ok (.enter F args) w)
    (hone : ∀ x ∈ l, ∀ (w' : World), Chg (fun _ => False) w w' → Calls Tryz.prog F (#[.agg (bys x).toArray] ++ caps) w' fun e w'' => e = .returned (.bool (!(p x))) ∧ Chg (fun _ => False) w' w'') :
    Calls Tryz.prog 194 #[.slice A l.length c, .func (.func F) #[] caps] w fun e w' => ∃ i : Int, e = .returned (.int .i64 i) ∧ (0 ≤ i ↔ l.all p = false) ∧ -1 ≤ i ∧ Chg (fun _ => False) w w' := by
  have Hone := Lib.hid hone
  have Hl := Lib.hid hl
  have Hhl := Lib.hid hlen
  clear hlen
  clear hone hl
  go_enter Tryz.func194, Tryz.ntmps194
  go_wp2_with fail
  go_loopw [5, 8] (fun _ iv wr => ∃ k : Nat, k ≤ l.length ∧ iv = .int .i64 k ∧ (l.drop k).all p = l.all p ∧ Chg (fun _ => False) w wr) (fun _ iv _ => l.length - (intOf iv).toNat)
  case atStart => exact ⟨0, by omega, rfl, by simp, Chg.refl _ _⟩
  case round =>
    obtain ⟨k, hk, rfl, hall, hchg⟩ := hrel
    by_cases hp : k < l.length
    · obtain ⟨x, hx⟩ : ∃ x, l[k]? = some x := ⟨_, List.getElem?_eq_getElem hp⟩
      obtain ⟨b, off, rfl, hcell⟩ := RL.at_ (size := 32) (f := fun x => bys x) (fun x hm => by rw [bys_length]; exact (Hhl.out) x hm) ((Hl.out).chg hchg (fun _ _ _ _ h => h)) hx
      rw [any_drop hx] at hall
      have hd32 := (Hhl.out) x (List.mem_of_getElem? hx)
      have hld := ld_mid wr b (off + k * 32) x hd32 hcell
      clear hd32
      have Hone' := Lib.hid ((Hone.out) x (List.mem_of_getElem? hx))
      have Hchg := Lib.hid hchg
      have Hall := Lib.hid hall
      obtain ⟨q, hq⟩ : ∃ q, p x = q := ⟨_, rfl⟩
      rw [hq] at Hone' Hall
      clear hx hcell hchg hall hq
      cases q
      · go_wp2_with fail
        refine ((Hone'.out) _ (Hchg.out)).mono ?_
        rintro e w2 ⟨rfl, hc2⟩
        go_wp2_with fail
        go_ret
        exact ⟨k, rfl, ⟨fun _ => by rw [← Hall.out]; rfl, fun _ => by omega⟩, by omega, ((Hchg.out).trans hc2)⟩
      · go_wp2_with fail
        refine ((Hone'.out) _ (Hchg.out)).mono ?_
        rintro e w2 ⟨rfl, hc2⟩
        go_wp2_with fail
        go_roundw
        case rel => exact ⟨k + 1, by omega, by go_num, by rw [← Hall.out]; rfl, ((Hchg.out).trans hc2)⟩
        case measure => simp [intOf]; omega
    · obtain rfl : k = l.length := by omega
      have Hall := Lib.hid (show l.all p = true by rw [← hall, List.drop_length]; rfl)
      clear hall
      go_wp2_with fail
      go_ret
      exact ⟨-1, rfl, ⟨fun h => by omega, fun h => by rw [Hall.out] at h; cases h⟩, by omega, hchg⟩

set_option maxHeartbeats 1000000 in
set_option maxRecDepth 100000 in
theorem contains_dig (F : Nat) (caps : Array Value) (A : Option Addr) (c : Nat) (l : List (List UInt8)) (p : (List UInt8) → Bool) (w : World)
    (hl : RL w A 32 l.length (l.flatMap fun x => bys x)) (hlen : ∀ d ∈ l, d.length = 32) (hn : l.length ≤ 1048576)
    (hF : ∀ (args : Array Value) (w : World), (callFunc F args).run Tryz.prog w = .ok (.enter F args) w)
    (hone : ∀ x ∈ l, ∀ (w' : World), Chg (fun _ => False) w w' → Calls Tryz.prog F (#[.agg (bys x).toArray] ++ caps) w' fun e w'' => e = .returned (.bool (!(p x))) ∧ Chg (fun _ => False) w' w'') :
    Calls Tryz.prog 189 #[.slice A l.length c, .func (.func F) #[] caps] w fun e w' => e = .returned (.bool (!(l.all p))) ∧ Chg (fun _ => False) w w' := by
  have HI := Lib.hid (index_dig F caps A c l p w hl hlen hn hF hone)
  clear hone hl hF
  go_enter Tryz.func189, Tryz.ntmps189
  go_wp2_with fail
  refine (HI.out).mono ?_
  rintro e w2 ⟨i, rfl, hi, hi1, hc2⟩
  have Hi := Lib.hid hi
  clear hi
  go_wp2_with fail
  go_ret
  refine ⟨ret_bool ?_, hc2⟩
  have := Hi.out
  rw [Bool.eq_iff_iff]
  simp only [decide_eq_true_iff, Bool.not_eq_true']
  first | exact this | (constructor <;> intro h <;> first | exact this.1 (by omega) | (have := this.2 h; omega))
end Go.Proofs.YthkfcfkkamffpaaGreat
