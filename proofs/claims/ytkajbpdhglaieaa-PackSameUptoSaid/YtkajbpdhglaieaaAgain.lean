/-
  heartwoodlaw01.again: a Step is read, and what was read is laid; one walk for each kind. Printed by gen_again.py.
-/
import Derived.Test.YtkajbpdhglaieaaFits
import Derived.Test.YtkajbpdhglaieaaLaid
import Derived.Test.YtkajbpdhglaieaaRend
namespace Go.Proofs.Ytkajbpdhglaieaa
open Go.RowKit
set_option linter.unusedVariables false

theorem I64_0 : I64 0 := ⟨by decide, by decide⟩
theorem U64_0 : U64 0 := by unfold U64; decide
/-- a fixed number of a kind, laid as a Step of its own -/
theorem lay_fix (g : Nat) (k : Nat) (K : Int) (hK : K = k) (b : Nat) (hk : Hid ((k = 0 ∧ b = 1) ∨ (k = 1 ∧ b = 2) ∨ (k = 2 ∧ b = 4) ∨ (k = 3 ∧ b = 8) ∨ (k = 4 ∧ b = 1) ∨ (k = 5 ∧ b = 2) ∨ (k = 6 ∧ b = 4) ∨ (k = 7 ∧ b = 8) ∨ (k = 8 ∧ b = 2))) (n : Nat) (hn : U64 n) (v : Value) (xs : List UInt8) (w : World) (h : IsW w g v xs) (hroom : xs.length ≤ 140737488353000) :
    Calls Try.prog 18 #[.pointer (some ⟨g, 0, none⟩), .agg #[.int .i64 K, .int .u64 n, .int .i64 0, .string ⟨#[]⟩, .slice none 0 0, .slice none 0 0, .int .i64 0, .int .u64 0, .int .i64 0]] w fun e w' => e = .returned (.tuple #[]) ∧ Wrote w w' g v (xs ++ Pk.be b n) := by
  subst hK
  have hk := hk.out
  have hb : (St.mk k n 0 [] none 0 0 [] none 0 0 [] 0 0 0).bytes = Pk.be b n := by
    rcases hk with ⟨rfl, rfl⟩ | ⟨rfl, rfl⟩ | ⟨rfl, rfl⟩ | ⟨rfl, rfl⟩ | ⟨rfl, rfl⟩ | ⟨rfl, rfl⟩ | ⟨rfl, rfl⟩ | ⟨rfl, rfl⟩ | ⟨rfl, rfl⟩ <;> rfl
  have hl : (Pk.be b n).length ≤ 8 := by rw [Pk.be_length]; omega
  rw [← hb]
  refine lay_calls g (St.mk k n 0 [] none 0 0 [] none 0 0 [] 0 0 0) v xs w h ⟨hn, I64_0, ?_, I64_0, U64_0, I64_0, Lst.none_ _ _, Lst.none_ _ _, by simp, by simp⟩ ⟨fun h => absurd h (by simp), fun h => absurd h (by simp)⟩ (by rw [hb]; omega)
  unfold I64; dsimp only; omega
/-- how a Step that is read and laid again leaves the Reader and the Writer -/
def Again (w0 w' : World) (gr g : Nat) (r : Pk.Rd) : Prop :=
  ∃ r' v' ys, MineR w0 w' gr r' ∧ Mine w0 w' g v' ys ∧ r'.s = r.s ∧ r.pos ≤ r'.pos ∧ (r'.f = 0 → ys = r.s.take r'.pos)
theorem loop_all {α : Type} (step : Pk.Rd → α × Pk.Rd) (P : α → Prop) (h : ∀ r, P (step r).1) : ∀ (n : Nat) (acc : List α) (r : Pk.Rd), (∀ x ∈ acc, P x) → ∀ x ∈ (Pk.Rd.loop step n acc r).1, P x := by
  intro n
  induction n with
  | zero => intro acc r ha; exact ha
  | succ n ih =>
    intro acc r ha
    by_cases hf : (step r).2.f = 0
    · rw [Pk.Rd.loop_good hf]
      exact ih _ _ (by intro x hx; rcases List.mem_append.1 hx with hx | hx; exact ha x hx; simp at hx; subst hx; exact h r)
    · rw [Pk.Rd.loop_bad hf]; simp
theorem list_all {α : Type} (step : Pk.Rd → α × Pk.Rd) (P : α → Prop) (h : ∀ r, P (step r).1) (r : Pk.Rd) (most : Int) : ∀ x ∈ (r.list most step).1, P x := loop_all step P h _ _ _ (by simp)
theorem len_flat_le {α : Type} (enc : α → List UInt8) (l : List α) (h : ∀ x, 0 < (enc x).length) : l.length ≤ ((l.map enc).flatten).length := by
  induction l with
  | nil => simp
  | cons x l ih => have := h x; simp only [List.length_cons, List.map_cons, List.flatten_cons, List.length_append]; omega
set_option maxHeartbeats 1000000 in
set_option maxRecDepth 100000 in
theorem again14_reads (g bs most : Nat) (hne : g ≠ bs) : Reads1 (fun x : Nat => Value.int .u64 (x : Int)) (fun r => r.free most) (fun _ => False) (fun _ w => w.cell? ⟨bs, 7, none⟩ = some (.int .u64 most)) g 67 #[.pointer (some ⟨bs, 0, none⟩)] := by
  intro k r w h hf hc
  show Calls _ _ #[.pointer (some ⟨g, 0, none⟩), .pointer (some ⟨bs, 0, none⟩)] _ _
  go_enter Try.func67, Try.ntmps67
  go_wp2_with fail
  refine (rfree_calls g most r w h).mono ?_
  rintro e w1 ⟨rfl, h1, hc1⟩
  go_wp2_with fail
  go_ret
  exact ⟨rfl, h1, rfree_s r _, hc1.mono fun _ _ h => .inl h, (hc1.cell (World.block_lt_of_cell? _ _ hc) (fun e => hne e.symm)).trans hc⟩
set_option maxHeartbeats 1000000 in
set_option maxRecDepth 100000 in
theorem again15_reads (g bs : Nat) (width : Int) (hw : I64 width) (hne : g ≠ bs) : Reads1 (fun x : List UInt8 => S x) (fun r => r.text width) (fun _ => False) (fun _ w => w.cell? ⟨bs, 6, none⟩ = some (.int .i64 width)) g 69 #[.pointer (some ⟨bs, 0, none⟩)] := by
  intro k r w h hf hc
  show Calls _ _ #[.pointer (some ⟨g, 0, none⟩), .pointer (some ⟨bs, 0, none⟩)] _ _
  go_enter Try.func69, Try.ntmps69
  go_wp2_with fail
  refine (rtext_calls g width r w h hw).mono ?_
  rintro e w1 ⟨rfl, h1, hc1⟩
  go_wp2_with fail
  go_ret
  exact ⟨rfl, h1, rtext_s r _, hc1.mono fun _ _ h => .inl h, (hc1.cell (World.block_lt_of_cell? _ _ hc) (fun e => hne e.symm)).trans hc⟩
theorem raw_len_ok {r : Pk.Rd} {n : Nat} (hf : r.f = 0) (h : (r.raw n).2.f = 0) : (r.raw n).1.length = n := by
  by_cases hl : n ≤ r.left
  · exact (raw_full hf hl).1
  · exfalso
    unfold Pk.Rd.raw at h
    rw [if_neg (by rintro (h | h); exact h hf; omega), if_pos (by omega)] at h
    simp at h
theorem dig_take {l : List UInt8} {n : Nat} (h : l.length = n) (hn : n ≤ 32) : (dig l).take n = l := by
  unfold dig
  rw [List.take_of_length_le (i := 32) (by omega), List.take_append_of_le_length (by omega), List.take_of_length_le (by omega)]
theorem unzig_i64 (n : Nat) (h : n < 18446744073709551616) : I64 (unzig n) := by unfold I64 unzig; split <;> omega
theorem take_len (l : List UInt8) (k : Nat) : (l.take k).length ≤ l.length := by rw [List.length_take]; omega
theorem Fits.len {r r' : Pk.Rd} {b : List UInt8} (h : Fits r r' b) (hf : r'.f = 0) : (r.s.take r.pos).length + b.length ≤ r.s.length := by
  have := congrArg List.length (h.ok hf)
  rw [List.length_append] at this
  have := take_len r.s r'.pos
  omega

set_option maxHeartbeats 2000000 in
set_option maxRecDepth 100000 in
theorem again_0 (gr g : Nat) (x : St) (r : Pk.Rd) (v : Value) (w0 w : World) (hm : Mine w0 w g v (r.s.take r.pos)) (hr : MineR w0 w gr r) (hx : x.Ok w) (hlen : r.s.length ≤ 4194304) (hf : r.f = 0) (hne : gr ≠ g) (hk : Hid (x.kind = 0)) :
    Calls Try.prog 23 #[.pointer (some ⟨gr, 0, none⟩), .pointer (some ⟨g, 0, none⟩), .agg x.cells] w fun e w' => e = .returned (.tuple #[]) ∧ Again w0 w' gr g r := by
  obtain ⟨kind, n, i, s, A, an, ac, parts, B, bn, bc, ns, width, most, bound⟩ := x
  obtain ⟨hn, hi, hkk, hwd, hmo, hbo, hA, hB, hns, hrm⟩ := hx
  clear hA hB hns hrm
  unfold St.cells
  dsimp only at *
  have hle := hr.is.le
  have hgr0 := hr.is.blk.lt
  obtain ⟨rfl⟩ := hk
  go_enter Try.func23, Try.ntmps23
  go_wp2_with fail
  refine (size_calls _ _).mono ?_
  rintro e w1 ⟨rfl, c1⟩
  have hz : sz 0 = 1 := rfl
  rw [hz]
  clear hz
  have k0 : w1.cell? ⟨w.heap.size, 0, none⟩ = some (.int .i64 0) := cells_keep c1 0
  have hm := hm.below (((Chg.refl _ w).alloc _).trans c1)
  have hr := hr.below (((Chg.refl _ w).alloc _).trans c1)
  have hbg : ¬ (w.heap.size = gr) := fun e => by have := hgr0; omega
  have hgne : gr ≠ w.heap.size := by omega
  have hbs := Blk.lt (((Blk.new w 39 _).chg c1 (fun h => h)))
  go_wp2_with fail
  have fit := fits_take r (fz 0) hf hle
  have hn2 : U64 (r.take (fz 0)).1 := Nat.lt_of_lt_of_le (rtake_lt r _) (by decide)
  refine (fixed_calls gr 0 r _ hr.is).mono ?_
  rintro e w2 ⟨rfl, hred⟩
  have k0 := (hred.2.cell (p := ⟨w.heap.size, 0, none⟩) hbs hbg).trans k0
  obtain ⟨hm, hr⟩ := hm.reads hr hred
  by_cases hf2 : (r.take (fz 0)).2.f = 0
  · have hle2 := fit.len hf2
    have Hf2 := Lib.hid hf2
    clear hf2
    go_wp2_with fail
    refine (fault_no gr _ _ hr.is Hf2.out).mono ?_
    rintro e w' ⟨rfl, rfl⟩
    go_wp2_with fail
    refine (lay_fix g 0 0 rfl (fz 0) (Lib.hid (by decide)) _ hn2 _ _ _ hm.is (by have := take_len r.s r.pos; omega)).mono ?_
    rintro e w3 ⟨rfl, hw⟩
    obtain ⟨v3, hm3, hr3⟩ := hr.writes hm hw
    go_wp2_with fail
    refine bodyPost_ret (results_none rfl _ _ _) rfl ?_
    exact ⟨rfl, _, _, _, hr3, hm3, fit.s, fit.pos, fun _ => (fit.ok Hf2.out).symm⟩
  · go_wp2_with fail
    refine (fault_yes gr _ _ hr.is hf2).mono ?_
    rintro e w3 ⟨_, rfl, g3, rfl, _, c3, _⟩
    go_wp2_with fail
    refine bodyPost_ret (results_none rfl _ _ _) rfl ?_
    exact ⟨rfl, _, _, _, hr.below c3, hm.below c3, fit.s, fit.pos, fun h => absurd h hf2⟩

set_option maxHeartbeats 2000000 in
set_option maxRecDepth 100000 in
theorem again_1 (gr g : Nat) (x : St) (r : Pk.Rd) (v : Value) (w0 w : World) (hm : Mine w0 w g v (r.s.take r.pos)) (hr : MineR w0 w gr r) (hx : x.Ok w) (hlen : r.s.length ≤ 4194304) (hf : r.f = 0) (hne : gr ≠ g) (hk : Hid (x.kind = 1)) :
    Calls Try.prog 23 #[.pointer (some ⟨gr, 0, none⟩), .pointer (some ⟨g, 0, none⟩), .agg x.cells] w fun e w' => e = .returned (.tuple #[]) ∧ Again w0 w' gr g r := by
  obtain ⟨kind, n, i, s, A, an, ac, parts, B, bn, bc, ns, width, most, bound⟩ := x
  obtain ⟨hn, hi, hkk, hwd, hmo, hbo, hA, hB, hns, hrm⟩ := hx
  clear hA hB hns hrm
  unfold St.cells
  dsimp only at *
  have hle := hr.is.le
  have hgr0 := hr.is.blk.lt
  obtain ⟨rfl⟩ := hk
  go_enter Try.func23, Try.ntmps23
  go_wp2_with fail
  refine (size_calls _ _).mono ?_
  rintro e w1 ⟨rfl, c1⟩
  have hz : sz 1 = 2 := rfl
  rw [hz]
  clear hz
  have k0 : w1.cell? ⟨w.heap.size, 0, none⟩ = some (.int .i64 1) := cells_keep c1 0
  have hm := hm.below (((Chg.refl _ w).alloc _).trans c1)
  have hr := hr.below (((Chg.refl _ w).alloc _).trans c1)
  have hbg : ¬ (w.heap.size = gr) := fun e => by have := hgr0; omega
  have hgne : gr ≠ w.heap.size := by omega
  have hbs := Blk.lt (((Blk.new w 39 _).chg c1 (fun h => h)))
  go_wp2_with fail
  have fit := fits_take r (fz 1) hf hle
  have hn2 : U64 (r.take (fz 1)).1 := Nat.lt_of_lt_of_le (rtake_lt r _) (by decide)
  refine (fixed_calls gr 1 r _ hr.is).mono ?_
  rintro e w2 ⟨rfl, hred⟩
  have k0 := (hred.2.cell (p := ⟨w.heap.size, 0, none⟩) hbs hbg).trans k0
  obtain ⟨hm, hr⟩ := hm.reads hr hred
  by_cases hf2 : (r.take (fz 1)).2.f = 0
  · have hle2 := fit.len hf2
    have Hf2 := Lib.hid hf2
    clear hf2
    go_wp2_with fail
    refine (fault_no gr _ _ hr.is Hf2.out).mono ?_
    rintro e w' ⟨rfl, rfl⟩
    go_wp2_with fail
    refine (lay_fix g 1 1 rfl (fz 1) (Lib.hid (by decide)) _ hn2 _ _ _ hm.is (by have := take_len r.s r.pos; omega)).mono ?_
    rintro e w3 ⟨rfl, hw⟩
    obtain ⟨v3, hm3, hr3⟩ := hr.writes hm hw
    go_wp2_with fail
    refine bodyPost_ret (results_none rfl _ _ _) rfl ?_
    exact ⟨rfl, _, _, _, hr3, hm3, fit.s, fit.pos, fun _ => (fit.ok Hf2.out).symm⟩
  · go_wp2_with fail
    refine (fault_yes gr _ _ hr.is hf2).mono ?_
    rintro e w3 ⟨_, rfl, g3, rfl, _, c3, _⟩
    go_wp2_with fail
    refine bodyPost_ret (results_none rfl _ _ _) rfl ?_
    exact ⟨rfl, _, _, _, hr.below c3, hm.below c3, fit.s, fit.pos, fun h => absurd h hf2⟩

set_option maxHeartbeats 2000000 in
set_option maxRecDepth 100000 in
theorem again_2 (gr g : Nat) (x : St) (r : Pk.Rd) (v : Value) (w0 w : World) (hm : Mine w0 w g v (r.s.take r.pos)) (hr : MineR w0 w gr r) (hx : x.Ok w) (hlen : r.s.length ≤ 4194304) (hf : r.f = 0) (hne : gr ≠ g) (hk : Hid (x.kind = 2)) :
    Calls Try.prog 23 #[.pointer (some ⟨gr, 0, none⟩), .pointer (some ⟨g, 0, none⟩), .agg x.cells] w fun e w' => e = .returned (.tuple #[]) ∧ Again w0 w' gr g r := by
  obtain ⟨kind, n, i, s, A, an, ac, parts, B, bn, bc, ns, width, most, bound⟩ := x
  obtain ⟨hn, hi, hkk, hwd, hmo, hbo, hA, hB, hns, hrm⟩ := hx
  clear hA hB hns hrm
  unfold St.cells
  dsimp only at *
  have hle := hr.is.le
  have hgr0 := hr.is.blk.lt
  obtain ⟨rfl⟩ := hk
  go_enter Try.func23, Try.ntmps23
  go_wp2_with fail
  refine (size_calls _ _).mono ?_
  rintro e w1 ⟨rfl, c1⟩
  have hz : sz 2 = 4 := rfl
  rw [hz]
  clear hz
  have k0 : w1.cell? ⟨w.heap.size, 0, none⟩ = some (.int .i64 2) := cells_keep c1 0
  have hm := hm.below (((Chg.refl _ w).alloc _).trans c1)
  have hr := hr.below (((Chg.refl _ w).alloc _).trans c1)
  have hbg : ¬ (w.heap.size = gr) := fun e => by have := hgr0; omega
  have hgne : gr ≠ w.heap.size := by omega
  have hbs := Blk.lt (((Blk.new w 39 _).chg c1 (fun h => h)))
  go_wp2_with fail
  have fit := fits_take r (fz 2) hf hle
  have hn2 : U64 (r.take (fz 2)).1 := Nat.lt_of_lt_of_le (rtake_lt r _) (by decide)
  refine (fixed_calls gr 2 r _ hr.is).mono ?_
  rintro e w2 ⟨rfl, hred⟩
  have k0 := (hred.2.cell (p := ⟨w.heap.size, 0, none⟩) hbs hbg).trans k0
  obtain ⟨hm, hr⟩ := hm.reads hr hred
  by_cases hf2 : (r.take (fz 2)).2.f = 0
  · have hle2 := fit.len hf2
    have Hf2 := Lib.hid hf2
    clear hf2
    go_wp2_with fail
    refine (fault_no gr _ _ hr.is Hf2.out).mono ?_
    rintro e w' ⟨rfl, rfl⟩
    go_wp2_with fail
    refine (lay_fix g 2 2 rfl (fz 2) (Lib.hid (by decide)) _ hn2 _ _ _ hm.is (by have := take_len r.s r.pos; omega)).mono ?_
    rintro e w3 ⟨rfl, hw⟩
    obtain ⟨v3, hm3, hr3⟩ := hr.writes hm hw
    go_wp2_with fail
    refine bodyPost_ret (results_none rfl _ _ _) rfl ?_
    exact ⟨rfl, _, _, _, hr3, hm3, fit.s, fit.pos, fun _ => (fit.ok Hf2.out).symm⟩
  · go_wp2_with fail
    refine (fault_yes gr _ _ hr.is hf2).mono ?_
    rintro e w3 ⟨_, rfl, g3, rfl, _, c3, _⟩
    go_wp2_with fail
    refine bodyPost_ret (results_none rfl _ _ _) rfl ?_
    exact ⟨rfl, _, _, _, hr.below c3, hm.below c3, fit.s, fit.pos, fun h => absurd h hf2⟩

set_option maxHeartbeats 2000000 in
set_option maxRecDepth 100000 in
theorem again_3 (gr g : Nat) (x : St) (r : Pk.Rd) (v : Value) (w0 w : World) (hm : Mine w0 w g v (r.s.take r.pos)) (hr : MineR w0 w gr r) (hx : x.Ok w) (hlen : r.s.length ≤ 4194304) (hf : r.f = 0) (hne : gr ≠ g) (hk : Hid (x.kind = 3)) :
    Calls Try.prog 23 #[.pointer (some ⟨gr, 0, none⟩), .pointer (some ⟨g, 0, none⟩), .agg x.cells] w fun e w' => e = .returned (.tuple #[]) ∧ Again w0 w' gr g r := by
  obtain ⟨kind, n, i, s, A, an, ac, parts, B, bn, bc, ns, width, most, bound⟩ := x
  obtain ⟨hn, hi, hkk, hwd, hmo, hbo, hA, hB, hns, hrm⟩ := hx
  clear hA hB hns hrm
  unfold St.cells
  dsimp only at *
  have hle := hr.is.le
  have hgr0 := hr.is.blk.lt
  obtain ⟨rfl⟩ := hk
  go_enter Try.func23, Try.ntmps23
  go_wp2_with fail
  refine (size_calls _ _).mono ?_
  rintro e w1 ⟨rfl, c1⟩
  have hz : sz 3 = 8 := rfl
  rw [hz]
  clear hz
  have k0 : w1.cell? ⟨w.heap.size, 0, none⟩ = some (.int .i64 3) := cells_keep c1 0
  have hm := hm.below (((Chg.refl _ w).alloc _).trans c1)
  have hr := hr.below (((Chg.refl _ w).alloc _).trans c1)
  have hbg : ¬ (w.heap.size = gr) := fun e => by have := hgr0; omega
  have hgne : gr ≠ w.heap.size := by omega
  have hbs := Blk.lt (((Blk.new w 39 _).chg c1 (fun h => h)))
  go_wp2_with fail
  have fit := fits_take r (fz 3) hf hle
  have hn2 : U64 (r.take (fz 3)).1 := Nat.lt_of_lt_of_le (rtake_lt r _) (by decide)
  refine (fixed_calls gr 3 r _ hr.is).mono ?_
  rintro e w2 ⟨rfl, hred⟩
  have k0 := (hred.2.cell (p := ⟨w.heap.size, 0, none⟩) hbs hbg).trans k0
  obtain ⟨hm, hr⟩ := hm.reads hr hred
  by_cases hf2 : (r.take (fz 3)).2.f = 0
  · have hle2 := fit.len hf2
    have Hf2 := Lib.hid hf2
    clear hf2
    go_wp2_with fail
    refine (fault_no gr _ _ hr.is Hf2.out).mono ?_
    rintro e w' ⟨rfl, rfl⟩
    go_wp2_with fail
    refine (lay_fix g 3 3 rfl (fz 3) (Lib.hid (by decide)) _ hn2 _ _ _ hm.is (by have := take_len r.s r.pos; omega)).mono ?_
    rintro e w3 ⟨rfl, hw⟩
    obtain ⟨v3, hm3, hr3⟩ := hr.writes hm hw
    go_wp2_with fail
    refine bodyPost_ret (results_none rfl _ _ _) rfl ?_
    exact ⟨rfl, _, _, _, hr3, hm3, fit.s, fit.pos, fun _ => (fit.ok Hf2.out).symm⟩
  · go_wp2_with fail
    refine (fault_yes gr _ _ hr.is hf2).mono ?_
    rintro e w3 ⟨_, rfl, g3, rfl, _, c3, _⟩
    go_wp2_with fail
    refine bodyPost_ret (results_none rfl _ _ _) rfl ?_
    exact ⟨rfl, _, _, _, hr.below c3, hm.below c3, fit.s, fit.pos, fun h => absurd h hf2⟩

set_option maxHeartbeats 2000000 in
set_option maxRecDepth 100000 in
theorem again_4 (gr g : Nat) (x : St) (r : Pk.Rd) (v : Value) (w0 w : World) (hm : Mine w0 w g v (r.s.take r.pos)) (hr : MineR w0 w gr r) (hx : x.Ok w) (hlen : r.s.length ≤ 4194304) (hf : r.f = 0) (hne : gr ≠ g) (hk : Hid (x.kind = 4)) :
    Calls Try.prog 23 #[.pointer (some ⟨gr, 0, none⟩), .pointer (some ⟨g, 0, none⟩), .agg x.cells] w fun e w' => e = .returned (.tuple #[]) ∧ Again w0 w' gr g r := by
  obtain ⟨kind, n, i, s, A, an, ac, parts, B, bn, bc, ns, width, most, bound⟩ := x
  obtain ⟨hn, hi, hkk, hwd, hmo, hbo, hA, hB, hns, hrm⟩ := hx
  clear hA hB hns hrm
  unfold St.cells
  dsimp only at *
  have hle := hr.is.le
  have hgr0 := hr.is.blk.lt
  obtain ⟨rfl⟩ := hk
  go_enter Try.func23, Try.ntmps23
  go_wp2_with fail
  refine (size_calls _ _).mono ?_
  rintro e w1 ⟨rfl, c1⟩
  have hz : sz 4 = 1 := rfl
  rw [hz]
  clear hz
  have k0 : w1.cell? ⟨w.heap.size, 0, none⟩ = some (.int .i64 4) := cells_keep c1 0
  have hm := hm.below (((Chg.refl _ w).alloc _).trans c1)
  have hr := hr.below (((Chg.refl _ w).alloc _).trans c1)
  have hbg : ¬ (w.heap.size = gr) := fun e => by have := hgr0; omega
  have hgne : gr ≠ w.heap.size := by omega
  have hbs := Blk.lt (((Blk.new w 39 _).chg c1 (fun h => h)))
  go_wp2_with fail
  have fit := fits_take r (fz 4) hf hle
  have hn2 : U64 (r.take (fz 4)).1 := Nat.lt_of_lt_of_le (rtake_lt r _) (by decide)
  refine (fixed_calls gr 4 r _ hr.is).mono ?_
  rintro e w2 ⟨rfl, hred⟩
  have k0 := (hred.2.cell (p := ⟨w.heap.size, 0, none⟩) hbs hbg).trans k0
  obtain ⟨hm, hr⟩ := hm.reads hr hred
  by_cases hf2 : (r.take (fz 4)).2.f = 0
  · have hle2 := fit.len hf2
    have Hf2 := Lib.hid hf2
    clear hf2
    go_wp2_with fail
    refine (fault_no gr _ _ hr.is Hf2.out).mono ?_
    rintro e w' ⟨rfl, rfl⟩
    go_wp2_with fail
    refine (lay_fix g 4 4 rfl (fz 4) (Lib.hid (by decide)) _ hn2 _ _ _ hm.is (by have := take_len r.s r.pos; omega)).mono ?_
    rintro e w3 ⟨rfl, hw⟩
    obtain ⟨v3, hm3, hr3⟩ := hr.writes hm hw
    go_wp2_with fail
    refine bodyPost_ret (results_none rfl _ _ _) rfl ?_
    exact ⟨rfl, _, _, _, hr3, hm3, fit.s, fit.pos, fun _ => (fit.ok Hf2.out).symm⟩
  · go_wp2_with fail
    refine (fault_yes gr _ _ hr.is hf2).mono ?_
    rintro e w3 ⟨_, rfl, g3, rfl, _, c3, _⟩
    go_wp2_with fail
    refine bodyPost_ret (results_none rfl _ _ _) rfl ?_
    exact ⟨rfl, _, _, _, hr.below c3, hm.below c3, fit.s, fit.pos, fun h => absurd h hf2⟩

set_option maxHeartbeats 2000000 in
set_option maxRecDepth 100000 in
theorem again_5 (gr g : Nat) (x : St) (r : Pk.Rd) (v : Value) (w0 w : World) (hm : Mine w0 w g v (r.s.take r.pos)) (hr : MineR w0 w gr r) (hx : x.Ok w) (hlen : r.s.length ≤ 4194304) (hf : r.f = 0) (hne : gr ≠ g) (hk : Hid (x.kind = 5)) :
    Calls Try.prog 23 #[.pointer (some ⟨gr, 0, none⟩), .pointer (some ⟨g, 0, none⟩), .agg x.cells] w fun e w' => e = .returned (.tuple #[]) ∧ Again w0 w' gr g r := by
  obtain ⟨kind, n, i, s, A, an, ac, parts, B, bn, bc, ns, width, most, bound⟩ := x
  obtain ⟨hn, hi, hkk, hwd, hmo, hbo, hA, hB, hns, hrm⟩ := hx
  clear hA hB hns hrm
  unfold St.cells
  dsimp only at *
  have hle := hr.is.le
  have hgr0 := hr.is.blk.lt
  obtain ⟨rfl⟩ := hk
  go_enter Try.func23, Try.ntmps23
  go_wp2_with fail
  refine (size_calls _ _).mono ?_
  rintro e w1 ⟨rfl, c1⟩
  have hz : sz 5 = 2 := rfl
  rw [hz]
  clear hz
  have k0 : w1.cell? ⟨w.heap.size, 0, none⟩ = some (.int .i64 5) := cells_keep c1 0
  have hm := hm.below (((Chg.refl _ w).alloc _).trans c1)
  have hr := hr.below (((Chg.refl _ w).alloc _).trans c1)
  have hbg : ¬ (w.heap.size = gr) := fun e => by have := hgr0; omega
  have hgne : gr ≠ w.heap.size := by omega
  have hbs := Blk.lt (((Blk.new w 39 _).chg c1 (fun h => h)))
  go_wp2_with fail
  have fit := fits_take r (fz 5) hf hle
  have hn2 : U64 (r.take (fz 5)).1 := Nat.lt_of_lt_of_le (rtake_lt r _) (by decide)
  refine (fixed_calls gr 5 r _ hr.is).mono ?_
  rintro e w2 ⟨rfl, hred⟩
  have k0 := (hred.2.cell (p := ⟨w.heap.size, 0, none⟩) hbs hbg).trans k0
  obtain ⟨hm, hr⟩ := hm.reads hr hred
  by_cases hf2 : (r.take (fz 5)).2.f = 0
  · have hle2 := fit.len hf2
    have Hf2 := Lib.hid hf2
    clear hf2
    go_wp2_with fail
    refine (fault_no gr _ _ hr.is Hf2.out).mono ?_
    rintro e w' ⟨rfl, rfl⟩
    go_wp2_with fail
    refine (lay_fix g 5 5 rfl (fz 5) (Lib.hid (by decide)) _ hn2 _ _ _ hm.is (by have := take_len r.s r.pos; omega)).mono ?_
    rintro e w3 ⟨rfl, hw⟩
    obtain ⟨v3, hm3, hr3⟩ := hr.writes hm hw
    go_wp2_with fail
    refine bodyPost_ret (results_none rfl _ _ _) rfl ?_
    exact ⟨rfl, _, _, _, hr3, hm3, fit.s, fit.pos, fun _ => (fit.ok Hf2.out).symm⟩
  · go_wp2_with fail
    refine (fault_yes gr _ _ hr.is hf2).mono ?_
    rintro e w3 ⟨_, rfl, g3, rfl, _, c3, _⟩
    go_wp2_with fail
    refine bodyPost_ret (results_none rfl _ _ _) rfl ?_
    exact ⟨rfl, _, _, _, hr.below c3, hm.below c3, fit.s, fit.pos, fun h => absurd h hf2⟩

set_option maxHeartbeats 2000000 in
set_option maxRecDepth 100000 in
theorem again_6 (gr g : Nat) (x : St) (r : Pk.Rd) (v : Value) (w0 w : World) (hm : Mine w0 w g v (r.s.take r.pos)) (hr : MineR w0 w gr r) (hx : x.Ok w) (hlen : r.s.length ≤ 4194304) (hf : r.f = 0) (hne : gr ≠ g) (hk : Hid (x.kind = 6)) :
    Calls Try.prog 23 #[.pointer (some ⟨gr, 0, none⟩), .pointer (some ⟨g, 0, none⟩), .agg x.cells] w fun e w' => e = .returned (.tuple #[]) ∧ Again w0 w' gr g r := by
  obtain ⟨kind, n, i, s, A, an, ac, parts, B, bn, bc, ns, width, most, bound⟩ := x
  obtain ⟨hn, hi, hkk, hwd, hmo, hbo, hA, hB, hns, hrm⟩ := hx
  clear hA hB hns hrm
  unfold St.cells
  dsimp only at *
  have hle := hr.is.le
  have hgr0 := hr.is.blk.lt
  obtain ⟨rfl⟩ := hk
  go_enter Try.func23, Try.ntmps23
  go_wp2_with fail
  refine (size_calls _ _).mono ?_
  rintro e w1 ⟨rfl, c1⟩
  have hz : sz 6 = 4 := rfl
  rw [hz]
  clear hz
  have k0 : w1.cell? ⟨w.heap.size, 0, none⟩ = some (.int .i64 6) := cells_keep c1 0
  have hm := hm.below (((Chg.refl _ w).alloc _).trans c1)
  have hr := hr.below (((Chg.refl _ w).alloc _).trans c1)
  have hbg : ¬ (w.heap.size = gr) := fun e => by have := hgr0; omega
  have hgne : gr ≠ w.heap.size := by omega
  have hbs := Blk.lt (((Blk.new w 39 _).chg c1 (fun h => h)))
  go_wp2_with fail
  have fit := fits_take r (fz 6) hf hle
  have hn2 : U64 (r.take (fz 6)).1 := Nat.lt_of_lt_of_le (rtake_lt r _) (by decide)
  refine (fixed_calls gr 6 r _ hr.is).mono ?_
  rintro e w2 ⟨rfl, hred⟩
  have k0 := (hred.2.cell (p := ⟨w.heap.size, 0, none⟩) hbs hbg).trans k0
  obtain ⟨hm, hr⟩ := hm.reads hr hred
  by_cases hf2 : (r.take (fz 6)).2.f = 0
  · have hle2 := fit.len hf2
    have Hf2 := Lib.hid hf2
    clear hf2
    go_wp2_with fail
    refine (fault_no gr _ _ hr.is Hf2.out).mono ?_
    rintro e w' ⟨rfl, rfl⟩
    go_wp2_with fail
    refine (lay_fix g 6 6 rfl (fz 6) (Lib.hid (by decide)) _ hn2 _ _ _ hm.is (by have := take_len r.s r.pos; omega)).mono ?_
    rintro e w3 ⟨rfl, hw⟩
    obtain ⟨v3, hm3, hr3⟩ := hr.writes hm hw
    go_wp2_with fail
    refine bodyPost_ret (results_none rfl _ _ _) rfl ?_
    exact ⟨rfl, _, _, _, hr3, hm3, fit.s, fit.pos, fun _ => (fit.ok Hf2.out).symm⟩
  · go_wp2_with fail
    refine (fault_yes gr _ _ hr.is hf2).mono ?_
    rintro e w3 ⟨_, rfl, g3, rfl, _, c3, _⟩
    go_wp2_with fail
    refine bodyPost_ret (results_none rfl _ _ _) rfl ?_
    exact ⟨rfl, _, _, _, hr.below c3, hm.below c3, fit.s, fit.pos, fun h => absurd h hf2⟩

set_option maxHeartbeats 2000000 in
set_option maxRecDepth 100000 in
theorem again_7 (gr g : Nat) (x : St) (r : Pk.Rd) (v : Value) (w0 w : World) (hm : Mine w0 w g v (r.s.take r.pos)) (hr : MineR w0 w gr r) (hx : x.Ok w) (hlen : r.s.length ≤ 4194304) (hf : r.f = 0) (hne : gr ≠ g) (hk : Hid (x.kind = 7)) :
    Calls Try.prog 23 #[.pointer (some ⟨gr, 0, none⟩), .pointer (some ⟨g, 0, none⟩), .agg x.cells] w fun e w' => e = .returned (.tuple #[]) ∧ Again w0 w' gr g r := by
  obtain ⟨kind, n, i, s, A, an, ac, parts, B, bn, bc, ns, width, most, bound⟩ := x
  obtain ⟨hn, hi, hkk, hwd, hmo, hbo, hA, hB, hns, hrm⟩ := hx
  clear hA hB hns hrm
  unfold St.cells
  dsimp only at *
  have hle := hr.is.le
  have hgr0 := hr.is.blk.lt
  obtain ⟨rfl⟩ := hk
  go_enter Try.func23, Try.ntmps23
  go_wp2_with fail
  refine (size_calls _ _).mono ?_
  rintro e w1 ⟨rfl, c1⟩
  have hz : sz 7 = 8 := rfl
  rw [hz]
  clear hz
  have k0 : w1.cell? ⟨w.heap.size, 0, none⟩ = some (.int .i64 7) := cells_keep c1 0
  have hm := hm.below (((Chg.refl _ w).alloc _).trans c1)
  have hr := hr.below (((Chg.refl _ w).alloc _).trans c1)
  have hbg : ¬ (w.heap.size = gr) := fun e => by have := hgr0; omega
  have hgne : gr ≠ w.heap.size := by omega
  have hbs := Blk.lt (((Blk.new w 39 _).chg c1 (fun h => h)))
  go_wp2_with fail
  have fit := fits_take r (fz 7) hf hle
  have hn2 : U64 (r.take (fz 7)).1 := Nat.lt_of_lt_of_le (rtake_lt r _) (by decide)
  refine (fixed_calls gr 7 r _ hr.is).mono ?_
  rintro e w2 ⟨rfl, hred⟩
  have k0 := (hred.2.cell (p := ⟨w.heap.size, 0, none⟩) hbs hbg).trans k0
  obtain ⟨hm, hr⟩ := hm.reads hr hred
  by_cases hf2 : (r.take (fz 7)).2.f = 0
  · have hle2 := fit.len hf2
    have Hf2 := Lib.hid hf2
    clear hf2
    go_wp2_with fail
    refine (fault_no gr _ _ hr.is Hf2.out).mono ?_
    rintro e w' ⟨rfl, rfl⟩
    go_wp2_with fail
    refine (lay_fix g 7 7 rfl (fz 7) (Lib.hid (by decide)) _ hn2 _ _ _ hm.is (by have := take_len r.s r.pos; omega)).mono ?_
    rintro e w3 ⟨rfl, hw⟩
    obtain ⟨v3, hm3, hr3⟩ := hr.writes hm hw
    go_wp2_with fail
    refine bodyPost_ret (results_none rfl _ _ _) rfl ?_
    exact ⟨rfl, _, _, _, hr3, hm3, fit.s, fit.pos, fun _ => (fit.ok Hf2.out).symm⟩
  · go_wp2_with fail
    refine (fault_yes gr _ _ hr.is hf2).mono ?_
    rintro e w3 ⟨_, rfl, g3, rfl, _, c3, _⟩
    go_wp2_with fail
    refine bodyPost_ret (results_none rfl _ _ _) rfl ?_
    exact ⟨rfl, _, _, _, hr.below c3, hm.below c3, fit.s, fit.pos, fun h => absurd h hf2⟩

set_option maxHeartbeats 2000000 in
set_option maxRecDepth 100000 in
theorem again_8 (gr g : Nat) (x : St) (r : Pk.Rd) (v : Value) (w0 w : World) (hm : Mine w0 w g v (r.s.take r.pos)) (hr : MineR w0 w gr r) (hx : x.Ok w) (hlen : r.s.length ≤ 4194304) (hf : r.f = 0) (hne : gr ≠ g) (hk : Hid (x.kind = 8)) :
    Calls Try.prog 23 #[.pointer (some ⟨gr, 0, none⟩), .pointer (some ⟨g, 0, none⟩), .agg x.cells] w fun e w' => e = .returned (.tuple #[]) ∧ Again w0 w' gr g r := by
  obtain ⟨kind, n, i, s, A, an, ac, parts, B, bn, bc, ns, width, most, bound⟩ := x
  obtain ⟨hn, hi, hkk, hwd, hmo, hbo, hA, hB, hns, hrm⟩ := hx
  clear hA hB hns hrm
  unfold St.cells
  dsimp only at *
  have hle := hr.is.le
  have hgr0 := hr.is.blk.lt
  obtain ⟨rfl⟩ := hk
  go_enter Try.func23, Try.ntmps23
  go_wp2_with fail
  refine (size_calls _ _).mono ?_
  rintro e w1 ⟨rfl, c1⟩
  have hz : sz 8 = 2 := rfl
  rw [hz]
  clear hz
  have k0 : w1.cell? ⟨w.heap.size, 0, none⟩ = some (.int .i64 8) := cells_keep c1 0
  have hm := hm.below (((Chg.refl _ w).alloc _).trans c1)
  have hr := hr.below (((Chg.refl _ w).alloc _).trans c1)
  have hbg : ¬ (w.heap.size = gr) := fun e => by have := hgr0; omega
  have hgne : gr ≠ w.heap.size := by omega
  have hbs := Blk.lt (((Blk.new w 39 _).chg c1 (fun h => h)))
  go_wp2_with fail
  have fit := fits_take r (fz 8) hf hle
  have hn2 : U64 (r.take (fz 8)).1 := Nat.lt_of_lt_of_le (rtake_lt r _) (by decide)
  refine (fixed_calls gr 8 r _ hr.is).mono ?_
  rintro e w2 ⟨rfl, hred⟩
  have k0 := (hred.2.cell (p := ⟨w.heap.size, 0, none⟩) hbs hbg).trans k0
  obtain ⟨hm, hr⟩ := hm.reads hr hred
  by_cases hf2 : (r.take (fz 8)).2.f = 0
  · have hle2 := fit.len hf2
    have Hf2 := Lib.hid hf2
    clear hf2
    go_wp2_with fail
    refine (fault_no gr _ _ hr.is Hf2.out).mono ?_
    rintro e w' ⟨rfl, rfl⟩
    go_wp2_with fail
    refine (lay_fix g 8 8 rfl (fz 8) (Lib.hid (by decide)) _ hn2 _ _ _ hm.is (by have := take_len r.s r.pos; omega)).mono ?_
    rintro e w3 ⟨rfl, hw⟩
    obtain ⟨v3, hm3, hr3⟩ := hr.writes hm hw
    go_wp2_with fail
    refine bodyPost_ret (results_none rfl _ _ _) rfl ?_
    exact ⟨rfl, _, _, _, hr3, hm3, fit.s, fit.pos, fun _ => (fit.ok Hf2.out).symm⟩
  · go_wp2_with fail
    refine (fault_yes gr _ _ hr.is hf2).mono ?_
    rintro e w3 ⟨_, rfl, g3, rfl, _, c3, _⟩
    go_wp2_with fail
    refine bodyPost_ret (results_none rfl _ _ _) rfl ?_
    exact ⟨rfl, _, _, _, hr.below c3, hm.below c3, fit.s, fit.pos, fun h => absurd h hf2⟩

set_option maxHeartbeats 2000000 in
set_option maxRecDepth 100000 in
theorem again_9 (gr g : Nat) (x : St) (r : Pk.Rd) (v : Value) (w0 w : World) (hm : Mine w0 w g v (r.s.take r.pos)) (hr : MineR w0 w gr r) (hx : x.Ok w) (hlen : r.s.length ≤ 4194304) (hf : r.f = 0) (hne : gr ≠ g) (hk : Hid (x.kind = 9)) :
    Calls Try.prog 23 #[.pointer (some ⟨gr, 0, none⟩), .pointer (some ⟨g, 0, none⟩), .agg x.cells] w fun e w' => e = .returned (.tuple #[]) ∧ Again w0 w' gr g r := by
  obtain ⟨kind, n, i, s, A, an, ac, parts, B, bn, bc, ns, width, most, bound⟩ := x
  obtain ⟨hn, hi, hkk, hwd, hmo, hbo, hA, hB, hns, hrm⟩ := hx
  clear hA hB hns hrm
  unfold St.cells
  dsimp only at *
  have hle := hr.is.le
  have hgr0 := hr.is.blk.lt
  obtain ⟨rfl⟩ := hk
  go_enter Try.func23, Try.ntmps23
  go_wp2_with fail
  refine (size_calls _ _).mono ?_
  rintro e w1 ⟨rfl, c1⟩
  have hz : sz 9 = 0 := rfl
  rw [hz]
  clear hz
  have k0 : w1.cell? ⟨w.heap.size, 0, none⟩ = some (.int .i64 9) := cells_keep c1 0
  have k7 : w1.cell? ⟨w.heap.size, 7, none⟩ = some (.int .u64 most) := cells_keep c1 7
  have hm := hm.below (((Chg.refl _ w).alloc _).trans c1)
  have hr := hr.below (((Chg.refl _ w).alloc _).trans c1)
  have hbg : ¬ (w.heap.size = gr) := fun e => by have := hgr0; omega
  have hgne : gr ≠ w.heap.size := by omega
  have hbs := Blk.lt (((Blk.new w 39 _).chg c1 (fun h => h)))
  go_wp2_with fail
  have fit := fits_free r most hf hle
  refine (rfree_calls gr most r _ hr.is).mono ?_
  rintro e w2 ⟨rfl, hred⟩
  obtain ⟨hm, hr⟩ := hm.reads hr hred
  by_cases hf2 : (r.free most).2.f = 0
  · have hle2 := fit.len hf2
    have Hf2 := Lib.hid hf2
    clear hf2
    go_wp2_with fail
    refine (fault_no gr _ _ hr.is Hf2.out).mono ?_
    rintro e w' ⟨rfl, rfl⟩
    go_wp2_with fail
    refine (free_calls g _ _ _ _ hm.is (rfree_lt r most) (by omega)).mono ?_
    rintro e w3 ⟨rfl, hw⟩
    obtain ⟨v3, hm3, hr3⟩ := hr.writes hm hw
    go_wp2_with fail
    go_end0
    exact ⟨rfl, _, _, _, hr3, hm3, fit.s, fit.pos, fun _ => (fit.ok Hf2.out).symm⟩
  · go_wp2_with fail
    refine (fault_yes gr _ _ hr.is hf2).mono ?_
    rintro e w3 ⟨_, rfl, g3, rfl, _, c3, _⟩
    go_wp2_with fail
    go_end0
    exact ⟨rfl, _, _, _, hr.below c3, hm.below c3, fit.s, fit.pos, fun h => absurd h hf2⟩

set_option maxHeartbeats 2000000 in
set_option maxRecDepth 100000 in
theorem again_10 (gr g : Nat) (x : St) (r : Pk.Rd) (v : Value) (w0 w : World) (hm : Mine w0 w g v (r.s.take r.pos)) (hr : MineR w0 w gr r) (hx : x.Ok w) (hlen : r.s.length ≤ 4194304) (hf : r.f = 0) (hne : gr ≠ g) (hk : Hid (x.kind = 10)) :
    Calls Try.prog 23 #[.pointer (some ⟨gr, 0, none⟩), .pointer (some ⟨g, 0, none⟩), .agg x.cells] w fun e w' => e = .returned (.tuple #[]) ∧ Again w0 w' gr g r := by
  obtain ⟨kind, n, i, s, A, an, ac, parts, B, bn, bc, ns, width, most, bound⟩ := x
  obtain ⟨hn, hi, hkk, hwd, hmo, hbo, hA, hB, hns, hrm⟩ := hx
  clear hA hB hns hrm
  unfold St.cells
  dsimp only at *
  have hle := hr.is.le
  have hgr0 := hr.is.blk.lt
  obtain ⟨rfl⟩ := hk
  go_enter Try.func23, Try.ntmps23
  go_wp2_with fail
  refine (size_calls _ _).mono ?_
  rintro e w1 ⟨rfl, c1⟩
  have hz : sz 10 = 0 := rfl
  rw [hz]
  clear hz
  have k0 : w1.cell? ⟨w.heap.size, 0, none⟩ = some (.int .i64 10) := cells_keep c1 0
  have hm := hm.below (((Chg.refl _ w).alloc _).trans c1)
  have hr := hr.below (((Chg.refl _ w).alloc _).trans c1)
  have hbg : ¬ (w.heap.size = gr) := fun e => by have := hgr0; omega
  have hgne : gr ≠ w.heap.size := by omega
  have hbs := Blk.lt (((Blk.new w 39 _).chg c1 (fun h => h)))
  go_wp2_with fail
  have fit := (fits_free r 18446744073709551615 hf hle).cast (c := Pk.free (Pk.zig (unzig (r.free 18446744073709551615).1))) (fun _ => by rw [zig_unzig])
  have hu : I64 (unzig (r.free 18446744073709551615).1) := unzig_i64 _ (rfree_lt r _)
  refine (rsigned_calls gr r _ hr.is).mono ?_
  rintro e w2 ⟨rfl, hred⟩
  obtain ⟨hm, hr⟩ := hm.reads hr hred
  by_cases hf2 : (r.free 18446744073709551615).2.f = 0
  · have hle2 := fit.len hf2
    have Hf2 := Lib.hid hf2
    clear hf2
    go_wp2_with fail
    refine (fault_no gr _ _ hr.is Hf2.out).mono ?_
    rintro e w' ⟨rfl, rfl⟩
    go_wp2_with fail
    refine (signed_calls g _ _ _ _ hm.is hu (by omega)).mono ?_
    rintro e w3 ⟨rfl, hw⟩
    obtain ⟨v3, hm3, hr3⟩ := hr.writes hm hw
    go_wp2_with fail
    go_end0
    exact ⟨rfl, _, _, _, hr3, hm3, fit.s, fit.pos, fun _ => (fit.ok Hf2.out).symm⟩
  · go_wp2_with fail
    refine (fault_yes gr _ _ hr.is hf2).mono ?_
    rintro e w3 ⟨_, rfl, g3, rfl, _, c3, _⟩
    go_wp2_with fail
    go_end0
    exact ⟨rfl, _, _, _, hr.below c3, hm.below c3, fit.s, fit.pos, fun h => absurd h hf2⟩

set_option maxHeartbeats 2000000 in
set_option maxRecDepth 100000 in
theorem again_12 (gr g : Nat) (x : St) (r : Pk.Rd) (v : Value) (w0 w : World) (hm : Mine w0 w g v (r.s.take r.pos)) (hr : MineR w0 w gr r) (hx : x.Ok w) (hlen : r.s.length ≤ 4194304) (hf : r.f = 0) (hne : gr ≠ g) (hk : Hid (x.kind = 12)) :
    Calls Try.prog 23 #[.pointer (some ⟨gr, 0, none⟩), .pointer (some ⟨g, 0, none⟩), .agg x.cells] w fun e w' => e = .returned (.tuple #[]) ∧ Again w0 w' gr g r := by
  obtain ⟨kind, n, i, s, A, an, ac, parts, B, bn, bc, ns, width, most, bound⟩ := x
  obtain ⟨hn, hi, hkk, hwd, hmo, hbo, hA, hB, hns, hrm⟩ := hx
  clear hA hB hns hrm
  unfold St.cells
  dsimp only at *
  have hle := hr.is.le
  have hgr0 := hr.is.blk.lt
  obtain ⟨rfl⟩ := hk
  go_enter Try.func23, Try.ntmps23
  go_wp2_with fail
  refine (size_calls _ _).mono ?_
  rintro e w1 ⟨rfl, c1⟩
  have hz : sz 12 = 0 := rfl
  rw [hz]
  clear hz
  have k0 : w1.cell? ⟨w.heap.size, 0, none⟩ = some (.int .i64 12) := cells_keep c1 0
  have k8 : w1.cell? ⟨w.heap.size, 8, none⟩ = some (.int .i64 bound) := cells_keep c1 8
  have hm := hm.below (((Chg.refl _ w).alloc _).trans c1)
  have hr := hr.below (((Chg.refl _ w).alloc _).trans c1)
  have hbg : ¬ (w.heap.size = gr) := fun e => by have := hgr0; omega
  have hgne : gr ≠ w.heap.size := by omega
  have hbs := Blk.lt (((Blk.new w 39 _).chg c1 (fun h => h)))
  go_wp2_with fail
  have fit := fits_text r bound hf hle
  refine (rtext_calls gr bound r _ hr.is hbo).mono ?_
  rintro e w2 ⟨rfl, hred⟩
  obtain ⟨hm, hr⟩ := hm.reads hr hred
  by_cases hf2 : (r.text bound).2.f = 0
  · have hle2 := fit.len hf2
    have Hf2 := Lib.hid hf2
    clear hf2
    go_wp2_with fail
    refine (fault_no gr _ _ hr.is Hf2.out).mono ?_
    rintro e w' ⟨rfl, rfl⟩
    go_wp2_with fail
    refine (text_calls g _ _ _ _ hm.is (by unfold Pk.text at hle2; rw [List.length_append] at hle2; omega)).mono ?_
    rintro e w3 ⟨rfl, hw⟩
    obtain ⟨v3, hm3, hr3⟩ := hr.writes hm hw
    go_wp2_with fail
    go_end0
    exact ⟨rfl, _, _, _, hr3, hm3, fit.s, fit.pos, fun _ => (fit.ok Hf2.out).symm⟩
  · go_wp2_with fail
    refine (fault_yes gr _ _ hr.is hf2).mono ?_
    rintro e w3 ⟨_, rfl, g3, rfl, _, c3, _⟩
    go_wp2_with fail
    go_end0
    exact ⟨rfl, _, _, _, hr.below c3, hm.below c3, fit.s, fit.pos, fun h => absurd h hf2⟩

set_option maxHeartbeats 2000000 in
set_option maxRecDepth 100000 in
theorem again_11 (gr g : Nat) (x : St) (r : Pk.Rd) (v : Value) (w0 w : World) (hm : Mine w0 w g v (r.s.take r.pos)) (hr : MineR w0 w gr r) (hx : x.Ok w) (hlen : r.s.length ≤ 4194304) (hf : r.f = 0) (hne : gr ≠ g) (hk : Hid (x.kind = 11)) :
    Calls Try.prog 23 #[.pointer (some ⟨gr, 0, none⟩), .pointer (some ⟨g, 0, none⟩), .agg x.cells] w fun e w' => e = .returned (.tuple #[]) ∧ Again w0 w' gr g r := by
  obtain ⟨kind, n, i, s, A, an, ac, parts, B, bn, bc, ns, width, most, bound⟩ := x
  obtain ⟨hn, hi, hkk, hwd, hmo, hbo, hA, hB, hns, hrm⟩ := hx
  clear hA hB hns hrm
  unfold St.cells
  dsimp only at *
  have hle := hr.is.le
  have hgr0 := hr.is.blk.lt
  obtain ⟨rfl⟩ := hk
  go_enter Try.func23, Try.ntmps23
  go_wp2_with fail
  refine (size_calls _ _).mono ?_
  rintro e w1 ⟨rfl, c1⟩
  have hz : sz 11 = 0 := rfl
  rw [hz]
  clear hz
  have k0 : w1.cell? ⟨w.heap.size, 0, none⟩ = some (.int .i64 11) := cells_keep c1 0
  have k2 : w1.cell? ⟨w.heap.size, 2, none⟩ = some (.int .i64 i) := cells_keep c1 2
  have hm := hm.below (((Chg.refl _ w).alloc _).trans c1)
  have hr := hr.below (((Chg.refl _ w).alloc _).trans c1)
  have hbg : ¬ (w.heap.size = gr) := fun e => by have := hgr0; omega
  have hgne : gr ≠ w.heap.size := by omega
  have hbs := Blk.lt (((Blk.new w 39 _).chg c1 (fun h => h)))
  go_wp2_with fail
  have fit := fits_raw r i hf hle
  refine (rraw_calls gr i r _ hr.is).mono ?_
  rintro e w2 ⟨rfl, hred⟩
  obtain ⟨hm, hr⟩ := hm.reads hr hred
  have hl5 : (r.raw i).1.length ≤ r.s.length := by
    unfold Pk.Rd.raw; split <;> (try split) <;> simp <;> omega
  go_wp2_with fail
  have hl2 : Lst (w2.alloc (.cells #[S (r.raw i).1] 9)) (some ⟨w2.heap.size, 0, none⟩) 1 (strs [(r.raw i).1]) := Lst.new w2 9 [S (r.raw i).1]
  have hmg := hm.is.blk.lt
  have hm2 := hm.below ((Chg.refl _ w2).alloc (.cells #[S (r.raw i).1] 9))
  have hr2 := hr.below ((Chg.refl _ w2).alloc (.cells #[S (r.raw i).1] 9))
  refine (raw_calls g _ 1 1 [(r.raw i).1] _ _ _ hm2.is hl2 ?_ (by omega) (by have := take_len r.s r.pos; simp; omega)).mono ?_
  · rintro - ad ⟨rfl⟩
    refine ⟨fun e => ?_, fun e => ?_⟩
    · change w2.heap.size = g at e; omega
    · have := (hm.is.own.lt _ e).2; change w2.heap.size < _ at this; omega
  rintro e w3 ⟨rfl, hw⟩
  obtain ⟨v3, hm3, hr3⟩ := hr2.writes hm2 hw
  go_wp2_with fail
  go_end0
  exact ⟨rfl, _, _, _, hr3, hm3, fit.s, fit.pos, fun h => by rw [fit.ok h]; simp⟩

set_option maxHeartbeats 2000000 in
set_option maxRecDepth 100000 in
theorem again_14 (gr g : Nat) (x : St) (r : Pk.Rd) (v : Value) (w0 w : World) (hm : Mine w0 w g v (r.s.take r.pos)) (hr : MineR w0 w gr r) (hx : x.Ok w) (hlen : r.s.length ≤ 4194304) (hf : r.f = 0) (hne : gr ≠ g) (hk : Hid (x.kind = 14)) :
    Calls Try.prog 23 #[.pointer (some ⟨gr, 0, none⟩), .pointer (some ⟨g, 0, none⟩), .agg x.cells] w fun e w' => e = .returned (.tuple #[]) ∧ Again w0 w' gr g r := by
  obtain ⟨kind, n, i, s, A, an, ac, parts, B, bn, bc, ns, width, most, bound⟩ := x
  obtain ⟨hn, hi, hkk, hwd, hmo, hbo, hA, hB, hns, hrm⟩ := hx
  clear hA hB hns hrm
  unfold St.cells
  dsimp only at *
  have hle := hr.is.le
  have hgr0 := hr.is.blk.lt
  obtain ⟨rfl⟩ := hk
  go_enter Try.func23, Try.ntmps23
  go_wp2_with fail
  refine (size_calls _ _).mono ?_
  rintro e w1 ⟨rfl, c1⟩
  have hz : sz 14 = 0 := rfl
  rw [hz]
  clear hz
  have k0 : w1.cell? ⟨w.heap.size, 0, none⟩ = some (.int .i64 14) := cells_keep c1 0
  have k6 : w1.cell? ⟨w.heap.size, 6, none⟩ = some (.int .i64 width) := cells_keep c1 6
  have k7 : w1.cell? ⟨w.heap.size, 7, none⟩ = some (.int .u64 most) := cells_keep c1 7
  have k8 : w1.cell? ⟨w.heap.size, 8, none⟩ = some (.int .i64 bound) := cells_keep c1 8
  have hm := hm.below (((Chg.refl _ w).alloc _).trans c1)
  have hr := hr.below (((Chg.refl _ w).alloc _).trans c1)
  have hbg : ¬ (w.heap.size = gr) := fun e => by have := hgr0; omega
  have hgne : gr ≠ w.heap.size := by omega
  have hbs := Blk.lt (((Blk.new w 39 _).chg c1 (fun h => h)))
  go_wp2_with fail
  have fit := fits_list (fun r => r.free most) Pk.free (fun r hf hle => fits_free r most hf hle) r bound hf hle
  have hI := again14_reads gr w.heap.size most hgne
  refine (list_uint64 (fun r => r.free most) (fun _ => False) _ gr 67 #[.pointer (some ⟨w.heap.size, 0, none⟩)] bound r _ hr.is hbo (by omega) k7 (fun _ h => h.elim) ?_ (fun _ _ => by kernel_rfl) hI).mono ?_
  · intro k u1 u2 hsz hc hch
    exact (hch.cell (World.block_lt_of_cell? _ _ hc) (by rintro (e | e); exact hgne e.symm; exact absurd hbs (by have h9 : w1.heap.size ≤ w.heap.size := e; omega))).trans hc
  rintro e w2 ⟨v2, rfl, hown, hir, hch, -⟩
  have hred : Red _ w2 gr (r.list bound fun r => r.free most).2 := ⟨hir, hch.mono (fun _ _ h => h.elim id False.elim)⟩
  have hv1 := hm.is.blk.lt
  have hv2 := fun k h => (hm.is.own.lt k h).2
  obtain ⟨hm, hr⟩ := hm.reads hr hred
  obtain ⟨ao, cp, rfl⟩ := own_form hown
  by_cases hf2 : (r.list bound fun r => r.free most).2.f = 0
  · have hle2 := fit.len hf2
    have Hf2 := Lib.hid hf2
    have Hall := Lib.hid (list_all (fun r : Pk.Rd => r.free most) U64 (fun r => rfree_lt r most) r bound)
    clear hf2
    generalize hQ : (r.list bound fun r => r.free most) = Q at *
    have HQ := Lib.hid hQ
    clear hQ
    go_wp2_with fail
    refine (fault_no gr _ _ hr.is Hf2.out).mono ?_
    rintro e w' ⟨rfl, rfl⟩
    go_wp2_with fail
    refine (each_uint64 g 58 ao Q.1.length cp _ (Q.1.map Pk.free) _ _ _ hm.is (Lst.of_own hown) (by simp) ?_ (by have := len_flat_le Pk.free Q.1 (fun x => Pk.free_length_pos x); rw [List.length_append] at hle2; omega) (by rw [List.length_append] at hle2; omega) (fun _ _ => by kernel_rfl) ?_).mono ?_
    · intro hn0 ad ha
      subst ha
      have h2 := (hown.lt ad.block rfl).1
      refine ⟨fun e => ?_, fun e => ?_⟩
      · omega
      · have := hv2 _ e; omega
    · intro j u l hu hl v xs w hh hrr
      simp only [List.getElem?_map, Option.map_eq_some_iff] at hu hl
      obtain ⟨y, hy, rfl⟩ := hu
      obtain ⟨z, hz, rfl⟩ := hl
      rw [hy] at hz; injection hz with hz; subst hz
      exact layFree_calls g y v xs w hh (Hall.out y (List.mem_of_getElem? hy)) hrr
    rintro e w3 ⟨rfl, hw⟩
    obtain ⟨v3, hm3, hr3⟩ := hr.writes hm hw
    go_wp2_with fail
    go_end0
    exact ⟨rfl, _, _, _, hr3, hm3, fit.s, fit.pos, fun _ => (fit.ok Hf2.out).symm⟩
  · go_wp2_with fail
    refine (fault_yes gr _ _ hr.is hf2).mono ?_
    rintro e w3 ⟨_, rfl, g3, rfl, _, c3, _⟩
    go_wp2_with fail
    go_end0
    exact ⟨rfl, _, _, _, hr.below c3, hm.below c3, fit.s, fit.pos, fun h => absurd h hf2⟩

set_option maxHeartbeats 2000000 in
set_option maxRecDepth 100000 in
theorem again_15 (gr g : Nat) (x : St) (r : Pk.Rd) (v : Value) (w0 w : World) (hm : Mine w0 w g v (r.s.take r.pos)) (hr : MineR w0 w gr r) (hx : x.Ok w) (hlen : r.s.length ≤ 4194304) (hf : r.f = 0) (hne : gr ≠ g) (hk : Hid (x.kind = 15)) :
    Calls Try.prog 23 #[.pointer (some ⟨gr, 0, none⟩), .pointer (some ⟨g, 0, none⟩), .agg x.cells] w fun e w' => e = .returned (.tuple #[]) ∧ Again w0 w' gr g r := by
  obtain ⟨kind, n, i, s, A, an, ac, parts, B, bn, bc, ns, width, most, bound⟩ := x
  obtain ⟨hn, hi, hkk, hwd, hmo, hbo, hA, hB, hns, hrm⟩ := hx
  clear hA hB hns hrm
  unfold St.cells
  dsimp only at *
  have hle := hr.is.le
  have hgr0 := hr.is.blk.lt
  obtain ⟨rfl⟩ := hk
  go_enter Try.func23, Try.ntmps23
  go_wp2_with fail
  refine (size_calls _ _).mono ?_
  rintro e w1 ⟨rfl, c1⟩
  have hz : sz 15 = 0 := rfl
  rw [hz]
  clear hz
  have k0 : w1.cell? ⟨w.heap.size, 0, none⟩ = some (.int .i64 15) := cells_keep c1 0
  have k6 : w1.cell? ⟨w.heap.size, 6, none⟩ = some (.int .i64 width) := cells_keep c1 6
  have k7 : w1.cell? ⟨w.heap.size, 7, none⟩ = some (.int .u64 most) := cells_keep c1 7
  have k8 : w1.cell? ⟨w.heap.size, 8, none⟩ = some (.int .i64 bound) := cells_keep c1 8
  have hm := hm.below (((Chg.refl _ w).alloc _).trans c1)
  have hr := hr.below (((Chg.refl _ w).alloc _).trans c1)
  have hbg : ¬ (w.heap.size = gr) := fun e => by have := hgr0; omega
  have hgne : gr ≠ w.heap.size := by omega
  have hbs := Blk.lt (((Blk.new w 39 _).chg c1 (fun h => h)))
  go_wp2_with fail
  have fit := fits_list (fun r => r.text width) Pk.text (fun r hf hle => fits_text r width hf hle) r bound hf hle
  have hI := again15_reads gr w.heap.size width hwd hgne
  refine (list_string (fun r => r.text width) (fun _ => False) _ gr 69 #[.pointer (some ⟨w.heap.size, 0, none⟩)] bound r _ hr.is hbo (by omega) k6 (fun _ h => h.elim) ?_ (fun _ _ => by kernel_rfl) hI).mono ?_
  · intro k u1 u2 hsz hc hch
    exact (hch.cell (World.block_lt_of_cell? _ _ hc) (by rintro (e | e); exact hgne e.symm; exact absurd hbs (by have h9 : w1.heap.size ≤ w.heap.size := e; omega))).trans hc
  rintro e w2 ⟨v2, rfl, hown, hir, hch, -⟩
  have hred : Red _ w2 gr (r.list bound fun r => r.text width).2 := ⟨hir, hch.mono (fun _ _ h => h.elim id False.elim)⟩
  have hv1 := hm.is.blk.lt
  have hv2 := fun k h => (hm.is.own.lt k h).2
  obtain ⟨hm, hr⟩ := hm.reads hr hred
  obtain ⟨ao, cp, rfl⟩ := own_form hown
  by_cases hf2 : (r.list bound fun r => r.text width).2.f = 0
  · have hle2 := fit.len hf2
    have Hf2 := Lib.hid hf2
    have Hall := Lib.hid (list_all (fun r : Pk.Rd => r.text width) (fun _ => True) (fun _ => trivial) r bound)
    clear hf2
    generalize hQ : (r.list bound fun r => r.text width) = Q at *
    have HQ := Lib.hid hQ
    clear hQ
    go_wp2_with fail
    refine (fault_no gr _ _ hr.is Hf2.out).mono ?_
    rintro e w' ⟨rfl, rfl⟩
    go_wp2_with fail
    refine (each_string g 59 ao Q.1.length cp _ (Q.1.map Pk.text) _ _ _ hm.is (Lst.of_own hown) (by simp) ?_ (by have := len_flat_le Pk.text Q.1 (fun x => by unfold Pk.text; rw [List.length_append]; have := Pk.free_length_pos x.length; omega); rw [List.length_append] at hle2; omega) (by rw [List.length_append] at hle2; omega) (fun _ _ => by kernel_rfl) ?_).mono ?_
    · intro hn0 ad ha
      subst ha
      have h2 := (hown.lt ad.block rfl).1
      refine ⟨fun e => ?_, fun e => ?_⟩
      · omega
      · have := hv2 _ e; omega
    · intro j u l hu hl v xs w hh hrr
      simp only [List.getElem?_map, Option.map_eq_some_iff] at hu hl
      obtain ⟨y, hy, rfl⟩ := hu
      obtain ⟨z, hz, rfl⟩ := hl
      rw [hy] at hz; injection hz with hz; subst hz
      exact layText_calls g y v xs w hh (by unfold Pk.text at hrr; rw [List.length_append] at hrr; omega)
    rintro e w3 ⟨rfl, hw⟩
    obtain ⟨v3, hm3, hr3⟩ := hr.writes hm hw
    go_wp2_with fail
    go_end0
    exact ⟨rfl, _, _, _, hr3, hm3, fit.s, fit.pos, fun _ => (fit.ok Hf2.out).symm⟩
  · go_wp2_with fail
    refine (fault_yes gr _ _ hr.is hf2).mono ?_
    rintro e w3 ⟨_, rfl, g3, rfl, _, c3, _⟩
    go_wp2_with fail
    go_end0
    exact ⟨rfl, _, _, _, hr.below c3, hm.below c3, fit.s, fit.pos, fun h => absurd h hf2⟩

set_option maxHeartbeats 2000000 in
set_option maxRecDepth 100000 in
theorem again_13 (gr g : Nat) (x : St) (r : Pk.Rd) (v : Value) (w0 w : World) (hm : Mine w0 w g v (r.s.take r.pos)) (hr : MineR w0 w gr r) (hx : x.Ok w) (hlen : r.s.length ≤ 4194304) (hf : r.f = 0) (hne : gr ≠ g) (hk : Hid (x.kind = 13)) :
    Calls Try.prog 23 #[.pointer (some ⟨gr, 0, none⟩), .pointer (some ⟨g, 0, none⟩), .agg x.cells] w fun e w' => e = .returned (.tuple #[]) ∧ Again w0 w' gr g r := by
  obtain ⟨kind, n, i, s, A, an, ac, parts, B, bn, bc, ns, width, most, bound⟩ := x
  obtain ⟨hn, hi, hkk, hwd, hmo, hbo, hA, hB, hns, hrm⟩ := hx
  clear hA hB hns hrm
  unfold St.cells
  dsimp only at *
  have hle := hr.is.le
  have hgr0 := hr.is.blk.lt
  obtain ⟨rfl⟩ := hk
  go_enter Try.func23, Try.ntmps23
  go_wp2_with fail
  refine (size_calls _ _).mono ?_
  rintro e w1 ⟨rfl, c1⟩
  have hz : sz 13 = 0 := rfl
  rw [hz]
  clear hz
  have k0 : w1.cell? ⟨w.heap.size, 0, none⟩ = some (.int .i64 13) := cells_keep c1 0
  have k6 : w1.cell? ⟨w.heap.size, 6, none⟩ = some (.int .i64 width) := cells_keep c1 6
  have hm := hm.below (((Chg.refl _ w).alloc _).trans c1)
  have hr := hr.below (((Chg.refl _ w).alloc _).trans c1)
  have hbg : ¬ (w.heap.size = gr) := fun e => by have := hgr0; omega
  have hgne : gr ≠ w.heap.size := by omega
  have hbs := Blk.lt (((Blk.new w 39 _).chg c1 (fun h => h)))
  go_wp2_with fail
  have fit := fits_raw r (wd width) hf hle
  refine (rdigest_calls gr width r _ hr.is).mono ?_
  rintro e w2 ⟨rfl, hred⟩
  have k6 := (hred.2.cell (p := ⟨w.heap.size, 6, none⟩) hbs hbg).trans k6
  obtain ⟨hm, hr⟩ := hm.reads hr hred
  have hwd2 := wd_le width
  have hdl := dig_length (r.raw (wd width)).1
  have hsz : (bys (dig (r.raw (wd width)).1)).toArray.size = 32 := by simp [bys, hdl]
  have hone : (bys (dig (r.raw (wd width)).1)).toArray.all (·.oneCell') = true := by
    rw [Array.all_eq_true_iff_forall_mem]
    intro v hv
    exact bys_one _ v (by simpa using hv)
  have htk : (r.raw (wd width)).2.f = 0 → (dig (r.raw (wd width)).1).take (wd width) = (r.raw (wd width)).1 := fun h => dig_take (raw_len_ok hf h) hwd2
  have hz1 : Blk (w2.alloc (.cells (dgc [] 0) 65)) w2.heap.size 65 (dgc [] 0) := Blk.new w2 _ (dgc [] 0)
  obtain ⟨cs, hcs⟩ : ∃ cs, cs = (bys (dig (r.raw (wd width)).1)).toArray := ⟨_, rfl⟩
  rw [← hcs] at hsz hone ⊢
  have hz2 := hz1.setRow cs
  have cz := ((Chg.refl (fun _ => False) w2).alloc (.cells (dgc [] 0) 65)).setRow (g := w2.heap.size) (.inr (Nat.le_refl _)) cs
  have hm := hm.below cz
  have hr := hr.below cz
  have k6 := (cz.cell (World.block_lt_of_cell? _ _ k6) (fun h => h)).trans k6
  have Hcs := Lib.hid hcs
  have Hsz := Lib.hid hsz
  have Htk := Lib.hid htk
  clear hsz hcs htk
  go_wp2_with (refine wpList_store_row rfl 65 (.tmp 11) (.tmp 82) rfl w2.heap.size cs rfl rfl 65 (dgc [] 0) hz1 (by rw [Hsz.out]; exact info_digest) (by rw [Hsz.out]; rfl) hone ?_)
  change Calls _ _ _ ((w2.alloc (.cells (dgc [] 0) 65)).setRow w2.heap.size cs) _
  generalize (w2.alloc (.cells (dgc [] 0) 65)).setRow w2.heap.size cs = w4 at *
  by_cases hf2 : (r.raw (wd width)).2.f = 0
  · have hle2 := fit.len hf2
    have Hf2 := Lib.hid hf2
    clear hf2
    refine (fault_no gr _ _ hr.is Hf2.out).mono ?_
    rintro e w' ⟨rfl, rfl⟩
    go_wp2_with (refine wpList_load_row rfl 65 (.tmp 11) rfl w2.heap.size rfl 65 cs (0, 0) _ hz2 Try.underlying65 rfl (by rw [Hsz.out]; exact info_digest) ?_)
    rw [Hcs.out]
    refine (wdigest_calls g width (dig (r.raw (wd width)).1) _ _ _ hm.is hdl (by have := take_len r.s r.pos; omega)).mono ?_
    rintro e w3 ⟨rfl, hw⟩
    obtain ⟨v3, hm3, hr3⟩ := hr.writes hm hw
    go_wp2_with fail
    go_end0
    exact ⟨rfl, _, _, _, hr3, hm3, fit.s, fit.pos, fun h => by rw [Htk.out h, fit.ok h]⟩
  · refine (fault_yes gr _ _ hr.is hf2).mono ?_
    rintro e w3 ⟨_, rfl, g3, rfl, _, c3, _⟩
    go_wp2_with fail
    go_end0
    exact ⟨rfl, _, _, _, hr.below c3, hm.below c3, fit.s, fit.pos, fun h => absurd h hf2⟩

set_option maxHeartbeats 2000000 in
set_option maxRecDepth 100000 in
theorem again_no (gr g : Nat) (x : St) (r : Pk.Rd) (v : Value) (w0 w : World) (hm : Mine w0 w g v (r.s.take r.pos)) (hr : MineR w0 w gr r) (hx : x.Ok w) (hlen : r.s.length ≤ 4194304) (hf : r.f = 0) (hne : gr ≠ g) (hk : ∀ k : Nat, k ≤ 15 → x.kind ≠ k) :
    Calls Try.prog 23 #[.pointer (some ⟨gr, 0, none⟩), .pointer (some ⟨g, 0, none⟩), .agg x.cells] w fun e w' => e = .returned (.tuple #[]) ∧ Again w0 w' gr g r := by
  obtain ⟨kind, n, i, s, A, an, ac, parts, B, bn, bc, ns, width, most, bound⟩ := x
  obtain ⟨hn, hi, hkk, hwd, hmo, hbo, hA, hB, hns, hrm⟩ := hx
  clear hA hB hns hrm
  unfold St.cells
  dsimp only at *
  have hle := hr.is.le
  have hgr0 := hr.is.blk.lt
  have hno : kind < 0 ∨ 8 < kind := by have := hk 0 (by omega); have := hk 1 (by omega); have := hk 2 (by omega); have := hk 3 (by omega); have := hk 4 (by omega); have := hk 5 (by omega); have := hk 6 (by omega); have := hk 7 (by omega); have := hk 8 (by omega); omega
  have q0 : (kind == 0) = false := by rw [beq_eq_false_iff_ne]; exact hk 0 (by omega)
  have q1 : (kind == 1) = false := by rw [beq_eq_false_iff_ne]; exact hk 1 (by omega)
  have q2 : (kind == 2) = false := by rw [beq_eq_false_iff_ne]; exact hk 2 (by omega)
  have q3 : (kind == 3) = false := by rw [beq_eq_false_iff_ne]; exact hk 3 (by omega)
  have q4 : (kind == 4) = false := by rw [beq_eq_false_iff_ne]; exact hk 4 (by omega)
  have q5 : (kind == 5) = false := by rw [beq_eq_false_iff_ne]; exact hk 5 (by omega)
  have q6 : (kind == 6) = false := by rw [beq_eq_false_iff_ne]; exact hk 6 (by omega)
  have q7 : (kind == 7) = false := by rw [beq_eq_false_iff_ne]; exact hk 7 (by omega)
  have q8 : (kind == 8) = false := by rw [beq_eq_false_iff_ne]; exact hk 8 (by omega)
  have q9 : (kind == 9) = false := by rw [beq_eq_false_iff_ne]; exact hk 9 (by omega)
  have q10 : (kind == 10) = false := by rw [beq_eq_false_iff_ne]; exact hk 10 (by omega)
  have q11 : (kind == 11) = false := by rw [beq_eq_false_iff_ne]; exact hk 11 (by omega)
  have q12 : (kind == 12) = false := by rw [beq_eq_false_iff_ne]; exact hk 12 (by omega)
  have q13 : (kind == 13) = false := by rw [beq_eq_false_iff_ne]; exact hk 13 (by omega)
  have q14 : (kind == 14) = false := by rw [beq_eq_false_iff_ne]; exact hk 14 (by omega)
  have q15 : (kind == 15) = false := by rw [beq_eq_false_iff_ne]; exact hk 15 (by omega)
  clear hk
  go_enter Try.func23, Try.ntmps23
  go_wp2_with fail
  refine (size_calls _ _).mono ?_
  rintro e w1 ⟨rfl, c1⟩
  have hz : sz kind = 0 := by unfold sz; rw [if_pos hno]
  rw [hz]
  clear hz
  clear hno
  have k0 : w1.cell? ⟨w.heap.size, 0, none⟩ = some (.int .i64 kind) := cells_keep c1 0
  have hm := hm.below (((Chg.refl _ w).alloc _).trans c1)
  have hr := hr.below (((Chg.refl _ w).alloc _).trans c1)
  have hbg : ¬ (w.heap.size = gr) := fun e => by have := hgr0; omega
  have hgne : gr ≠ w.heap.size := by omega
  have hbs := Blk.lt (((Blk.new w 39 _).chg c1 (fun h => h)))
  go_wp2_with fail
  go_end0
  exact ⟨rfl, _, _, _, hr, hm, rfl, Nat.le_refl _, fun _ => rfl⟩

theorem again_calls (gr g : Nat) (x : St) (r : Pk.Rd) (v : Value) (w0 w : World) (hm : Mine w0 w g v (r.s.take r.pos)) (hr : MineR w0 w gr r) (hx : x.Ok w) (hlen : r.s.length ≤ 4194304) (hf : r.f = 0) (hne : gr ≠ g) :
    Calls Try.prog 23 #[.pointer (some ⟨gr, 0, none⟩), .pointer (some ⟨g, 0, none⟩), .agg x.cells] w fun e w' => e = .returned (.tuple #[]) ∧ Again w0 w' gr g r := by
  by_cases hno : x.kind < 0 ∨ 15 < x.kind
  · exact again_no gr g x r v w0 w hm hr hx hlen hf hne (fun k hk => by omega)
  · obtain ⟨k, hk⟩ : ∃ k : Nat, x.kind = k := ⟨x.kind.toNat, by omega⟩
    have hk15 : k ≤ 15 := by omega
    match k, hk15 with
    | 0, _ => exact again_0 gr g x r v w0 w hm hr hx hlen hf hne (Lib.hid hk)
    | 1, _ => exact again_1 gr g x r v w0 w hm hr hx hlen hf hne (Lib.hid hk)
    | 2, _ => exact again_2 gr g x r v w0 w hm hr hx hlen hf hne (Lib.hid hk)
    | 3, _ => exact again_3 gr g x r v w0 w hm hr hx hlen hf hne (Lib.hid hk)
    | 4, _ => exact again_4 gr g x r v w0 w hm hr hx hlen hf hne (Lib.hid hk)
    | 5, _ => exact again_5 gr g x r v w0 w hm hr hx hlen hf hne (Lib.hid hk)
    | 6, _ => exact again_6 gr g x r v w0 w hm hr hx hlen hf hne (Lib.hid hk)
    | 7, _ => exact again_7 gr g x r v w0 w hm hr hx hlen hf hne (Lib.hid hk)
    | 8, _ => exact again_8 gr g x r v w0 w hm hr hx hlen hf hne (Lib.hid hk)
    | 9, _ => exact again_9 gr g x r v w0 w hm hr hx hlen hf hne (Lib.hid hk)
    | 10, _ => exact again_10 gr g x r v w0 w hm hr hx hlen hf hne (Lib.hid hk)
    | 11, _ => exact again_11 gr g x r v w0 w hm hr hx hlen hf hne (Lib.hid hk)
    | 12, _ => exact again_12 gr g x r v w0 w hm hr hx hlen hf hne (Lib.hid hk)
    | 13, _ => exact again_13 gr g x r v w0 w hm hr hx hlen hf hne (Lib.hid hk)
    | 14, _ => exact again_14 gr g x r v w0 w hm hr hx hlen hf hne (Lib.hid hk)
    | 15, _ => exact again_15 gr g x r v w0 w hm hr hx hlen hf hne (Lib.hid hk)
    | _ + 16, h => exact absurd h (by omega)
end Go.Proofs.Ytkajbpdhglaieaa
