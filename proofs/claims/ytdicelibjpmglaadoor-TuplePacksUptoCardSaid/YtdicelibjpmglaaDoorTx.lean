/-
  Layer 3: the walk of TupleSorts.
-/
import Derived.Test.YtdicelibjpmglaaDoorTu
namespace Go.Proofs.YtdicelibjpmglaaDoor
open Go.RowKit
set_option linter.unusedVariables false
set_option linter.unusedSimpArgs false
attribute [local go_sem] run_store_float
open Tp (It)

theorem less_cmp : ∀ (p q : List UInt8), Op.bytesLess p q = decide (Tp.cmpL p q = -1)
  | [], [] => by simp [Op.bytesLess, Tp.cmpL]
  | [], _ :: _ => by simp [Op.bytesLess, Tp.cmpL]
  | _ :: _, [] => by simp [Op.bytesLess, Tp.cmpL]
  | a :: l, b :: m => by
    have ih := less_cmp l m
    simp only [Op.bytesLess, Tp.cmpL]
    by_cases h1 : a.toNat < b.toNat
    · have : a < b := by rw [UInt8.lt_iff_toNat_lt]; exact h1
      simp [h1, this]
    · by_cases h2 : b.toNat < a.toNat
      · have ha : ¬ a < b := by rw [UInt8.lt_iff_toNat_lt]; exact h1
        have he : a ≠ b := by rintro rfl; omega
        simp [h1, h2, ha, he]
      · have he : a = b := UInt8.toNat_inj.1 (by omega)
        subst he
        simp [ih]
theorem cmpL_anti : ∀ (p q : List UInt8), Tp.cmpL q p = - Tp.cmpL p q
  | [], [] => by simp [Tp.cmpL]
  | [], _ :: _ => by simp [Tp.cmpL]
  | _ :: _, [] => by simp [Tp.cmpL]
  | a :: l, b :: m => by
    have ih := cmpL_anti l m
    simp only [Tp.cmpL]
    by_cases h1 : a.toNat < b.toNat
    · rw [if_neg (by omega), if_pos h1, if_pos h1]; rfl
    · by_cases h2 : b.toNat < a.toNat
      · rw [if_pos h2, if_neg h1, if_pos h2]
      · rw [if_neg h2, if_neg h1, if_neg h1, if_neg h2, ih]
theorem cmpL_le (p q : List UInt8) : Tp.cmpL p q = -1 ∨ Tp.cmpL p q = 0 ∨ Tp.cmpL p q = 1 := by
  induction p generalizing q with
  | nil => cases q <;> simp [Tp.cmpL]
  | cons a l ih =>
    cases q with
    | nil => simp [Tp.cmpL]
    | cons b m =>
      simp only [Tp.cmpL]
      split
      · exact .inl rfl
      · split
        · exact .inr (.inr rfl)
        · exact ih m
namespace Tp
theorem cmpL_zero : ∀ (p q : List UInt8), cmpL p q = 0 ↔ p = q
  | [], [] => by simp [cmpL]
  | [], _ :: _ => by simp [cmpL]
  | _ :: _, [] => by simp [cmpL]
  | a :: l, b :: m => by
    have ih := cmpL_zero l m
    simp only [cmpL]
    by_cases h1 : a.toNat < b.toNat
    · rw [if_pos h1]; simp; rintro rfl; omega
    · by_cases h2 : b.toNat < a.toNat
      · rw [if_neg h1, if_pos h2]; simp; rintro rfl; omega
      · have he : a = b := UInt8.toNat_inj.1 (by omega)
        subst he
        rw [if_neg h1, if_neg h2, ih]; simp
end Tp
theorem Row.ins {w : World} {B : Nat} {v : Value} {l : List It} (h : Row w B v l) : Tp.Ins l := by
  have key : ∀ (vs : List Value) (l : List It), vs.length = l.length → (∀ (k : Nat) (b : Bool) (n : Int) (f : Nat) (t : List UInt8) (ls : List It), It.mk k b n f t ls ∈ l → InIt k n f t) →
      (∀ (i k : Nat) (b : Bool) (n : Int) (f : Nat) (t : List UInt8) (ls : List It) (v : Value), l[i]? = some (It.mk k b n f t ls) → vs[i]? = some v → Tp.Ins ls) → Tp.Ins l := by
    intro vs l
    induction l generalizing vs with
    | nil => intros; simp [Tp.Ins]
    | cons x l ih =>
      intro hl hin hs
      obtain ⟨k, b, n, f, t, ls⟩ := x
      cases vs with
      | nil => simp at hl
      | cons v vs =>
        have h1 := hin k b n f t ls (by simp)
        simp only [Tp.Ins]
        refine ⟨⟨h1.n0, h1.n1, h1.f⟩, hs 0 k b n f t ls v rfl rfl, ih vs (by simpa using hl) (fun k b n f t ls hm => hin k b n f t ls (by simp [hm])) (fun i k b n f t ls v h1 h2 => hs (i + 1) k b n f t ls v (by simpa using h1) (by simpa using h2))⟩
  induction h with
  | nil A cap hc1 => simp [Tp.Ins]
  | mk g off cap l vs hg hl hcap hc1 hin hcs hr ih => exact key vs l hl hin ih

set_option maxHeartbeats 1000000 in
set_option maxRecDepth 100000 in
theorem way_calls (p q : List UInt8) (w : World) : Calls Tryd.prog 21 #[S p, S q] w fun e w' => e = .returned (.int .i64 (Tp.cmpL p q)) ∧ w = w' := by
  have h1 := less_cmp p q
  have h2 := less_cmp q p
  rw [cmpL_anti p q] at h2
  have h3 := cmpL_le p q
  have h4 : (p == q) = decide (Tp.cmpL p q = 0) := by rw [Bool.eq_iff_iff]; simp [Tp.cmpL_zero]
  obtain ⟨c, hc⟩ : ∃ c, Tp.cmpL p q = c := ⟨_, rfl⟩
  rw [hc] at h1 h2 h3 h4 ⊢
  clear hc
  rcases h3 with rfl | rfl | rfl
  · simp at h1
    clear h2 h4
    go_enter Tryd.func21, Tryd.ntmps21
    go_wp2_with fail
    go_ret
    exact ⟨rfl, rfl⟩
  · have e : p = q := by simpa using h4
    subst e
    simp at h1
    clear h2 h4
    go_enter Tryd.func21, Tryd.ntmps21
    go_wp2_with fail
    go_ret
    exact ⟨rfl, rfl⟩
  · simp at h1
    rw [decide_eq_false (by decide)] at h4
    clear h2
    go_enter Tryd.func21, Tryd.ntmps21
    go_wp2_with fail
    go_ret
    exact ⟨rfl, rfl⟩

set_option maxHeartbeats 4000000 in
set_option maxRecDepth 100000 in
theorem tupleSorts_walk {v v' : Value} {l l' : List It} (W : World) (hsh : W.ShapedOpen Tryd.prog) (hrow : Row W W.heap.size v l) (hrow' : Row W W.heap.size v' l') (hs : Tp.sz l ≤ 1000000000000) (hs' : Tp.sz l' ≤ 1000000000000) :
    Calls Tryd.prog 8 #[v, v'] W fun e w' => e = .returned (.bool true) ∧ Chg (fun _ => False) W w' := by
  obtain ⟨m, hm⟩ := (Tryd.laysM143).s1_3 W hsh
  have hlt := World.block_lt_of_cell? _ _ hm
  have hG : Glob W W.heap.size := ⟨⟨m, hm⟩, hlt⟩
  have KK : ∀ w2, Chg (fun _ => False) W w2 → Keep W W.heap.size w2 := fun w2 hc => (Keep.refl W _ (Nat.le_refl _)).chg hc (fun k hkB e => e)
  have HA := Lib.hid (awake_calls W m hm)
  have P1 := Lib.hid (fun w2 (hc : Chg (fun _ => False) W w2) => pack_calls hrow hG w2 (KK w2 hc) hs)
  have P2 := Lib.hid (fun w2 (hc : Chg (fun _ => False) W w2) => pack_calls hrow' hG w2 (KK w2 hc) hs')
  have C1 := Lib.hid (fun w2 (hc : Chg (fun _ => False) W w2) => check_calls hrow w2 (KK w2 hc) hs)
  have C2 := Lib.hid (fun w2 (hc : Chg (fun _ => False) W w2) => check_calls hrow' w2 (KK w2 hc) hs')
  have O1 := Lib.hid (fun w2 (hc : Chg (fun _ => False) W w2) => order_calls hrow hrow' w2 (KK w2 hc) hs hs')
  have O2 := Lib.hid (fun w2 (hc : Chg (fun _ => False) W w2) => order_calls hrow' hrow w2 (KK w2 hc) hs' hs)
  have hi := hrow.ins
  have hi' := hrow'.ins
  obtain ⟨A, cap, rfl, -, -⟩ := hrow.slice
  obtain ⟨A', cap', rfl, -, -⟩ := hrow'.slice
  obtain ⟨x, hx⟩ : ∃ x, Tp.check l = x := ⟨_, rfl⟩
  obtain ⟨y, hy⟩ : ∃ y, Tp.check l' = y := ⟨_, rfl⟩
  rw [hx] at P1 C1
  rw [hy] at P2 C2
  have ho : x ≠ 0 ∨ y ≠ 0 → Tp.ord l l' = 0 := fun h => by unfold Tp.ord; rw [hx, hy, if_pos h]
  have hc1 : x = 0 → y = 0 → Tp.ord l l' = Tp.cmpL (Tp.pack l) (Tp.pack l') ∧ Tp.ord l' l = - Tp.cmpL (Tp.pack l) (Tp.pack l') := fun h h' => by
    have k1 := (Tp.check_ok (hx.trans h)).2.2.1
    have k2 := (Tp.check_ok (hy.trans h')).2.2.1
    have e1 : Tp.pack l = Tp.byt l := by unfold Tp.pack; rw [hx, if_pos h]
    have e2 : Tp.pack l' = Tp.byt l' := by unfold Tp.pack; rw [hy, if_pos h']
    have s1 := Tp.side_cmp l l' k1 k2 hi hi'
    have s2 := Tp.side_cmp l' l k2 k1 hi' hi
    have o1 : Tp.ord l l' = Tp.side l l' := by unfold Tp.ord; rw [hx, hy, if_neg (by simp [h, h'])]
    have o2 : Tp.ord l' l = Tp.side l' l := by unfold Tp.ord; rw [hx, hy, if_neg (by simp [h, h'])]
    rw [o1, o2, ← s1, ← s2, e1, e2]
    exact ⟨rfl, cmpL_anti _ _⟩
  have Ho := Lib.hid ho
  have Hc := Lib.hid hc1
  obtain ⟨p, hp⟩ : ∃ p, Tp.pack l = p := ⟨_, rfl⟩
  obtain ⟨q, hq⟩ : ∃ q, Tp.pack l' = q := ⟨_, rfl⟩
  rw [hp] at P1 Hc
  rw [hq] at P2 Hc
  have hcl := cmpL_le p q
  have HW := Lib.hid (way_calls p q)
  obtain ⟨c, hcc⟩ : ∃ c, Tp.cmpL p q = c := ⟨_, rfl⟩
  rw [hcc] at Hc HW hcl
  obtain ⟨o, hoo⟩ : ∃ o, Tp.ord l l' = o := ⟨_, rfl⟩
  obtain ⟨o', hoo'⟩ : ∃ o', Tp.ord l' l = o' := ⟨_, rfl⟩
  rw [hoo] at Ho Hc O1
  rw [hoo'] at Hc O2
  have hneg : IntKind.i64.wrap (-c) = -c := IntWalk.i64_in _ (by omega)
  clear hrow hrow' hs hs' hx hy ho hc1 hm hlt hG KK hi hi' hp hq hcc hoo hoo' hcl
  by_cases hx0 : x = 0
  · subst hx0
    by_cases hy0 : y = 0
    · subst hy0
      obtain ⟨rfl, rfl⟩ := (Hc.out) rfl rfl
      go_enter Tryd.func8, Tryd.ntmps8
      go_wp2_with fail
      refine HA.out.mono ?_
      rintro e w1 ⟨rfl, h1⟩
      go_wp2_with fail
      refine (P1.out _ h1).mono ?_
      rintro e w2 ⟨rfl, h2⟩
      have h2 := h1.trans h2
      go_wp2_with fail
      refine (P2.out _ h2).mono ?_
      rintro e w3 ⟨rfl, h3⟩
      have h3 := h2.trans h3
      go_wp2_with fail
      refine (C1.out _ h3).mono ?_
      rintro e w4 ⟨rfl, h4⟩
      have h4 := h3.trans h4
      go_wp2_with fail
      refine (C2.out _ h4).mono ?_
      rintro e w5 ⟨rfl, h5⟩
      have h5 := h4.trans h5
      go_wp2_with fail
      refine (O1.out _ h5).mono ?_
      rintro e w6 ⟨rfl, h6⟩
      have h6 := h5.trans h6
      go_wp2_with fail
      refine (HW.out _).mono ?_
      rintro e w7 ⟨rfl, rfl⟩
      go_wp2_with fail
      refine (O2.out _ h6).mono ?_
      rintro e w8 ⟨rfl, h8⟩
      have h8 := h6.trans h8
      go_wp2_with fail
      refine (HW.out _).mono ?_
      rintro e w9 ⟨rfl, rfl⟩
      go_wp2_with fail
      go_ret
      exact ⟨rfl, h8⟩
    · have y1 : (y != 0) = true := by simpa using hy0
      have y2 : (y == 0) = false := by simpa using hy0
      obtain rfl := (Ho.out) (.inr hy0)
      clear hy0
      go_enter Tryd.func8, Tryd.ntmps8
      go_wp2_with fail
      refine HA.out.mono ?_
      rintro e w1 ⟨rfl, h1⟩
      go_wp2_with fail
      refine (P1.out _ h1).mono ?_
      rintro e w2 ⟨rfl, h2⟩
      have h2 := h1.trans h2
      go_wp2_with fail
      refine (P2.out _ h2).mono ?_
      rintro e w3 ⟨rfl, h3⟩
      have h3 := h2.trans h3
      go_wp2_with fail
      refine (C1.out _ h3).mono ?_
      rintro e w4 ⟨rfl, h4⟩
      have h4 := h3.trans h4
      go_wp2_with fail
      refine (C2.out _ h4).mono ?_
      rintro e w5 ⟨rfl, h5⟩
      have h5 := h4.trans h5
      go_wp2_with fail
      refine (O1.out _ h5).mono ?_
      rintro e w6 ⟨rfl, h6⟩
      have h6 := h5.trans h6
      go_wp2_with fail
      go_ret
      exact ⟨rfl, h6⟩
  · have x1 : (x != 0) = true := by simpa using hx0
    have x2 : (x == 0) = false := by simpa using hx0
    obtain rfl := (Ho.out) (.inl hx0)
    clear hx0
    go_enter Tryd.func8, Tryd.ntmps8
    go_wp2_with fail
    refine HA.out.mono ?_
    rintro e w1 ⟨rfl, h1⟩
    go_wp2_with fail
    refine (P1.out _ h1).mono ?_
    rintro e w2 ⟨rfl, h2⟩
    have h2 := h1.trans h2
    go_wp2_with fail
    refine (P2.out _ h2).mono ?_
    rintro e w3 ⟨rfl, h3⟩
    have h3 := h2.trans h3
    go_wp2_with fail
    refine (C1.out _ h3).mono ?_
    rintro e w4 ⟨rfl, h4⟩
    have h4 := h3.trans h4
    go_wp2_with fail
    refine (C2.out _ h4).mono ?_
    rintro e w5 ⟨rfl, h5⟩
    have h5 := h4.trans h5
    go_wp2_with fail
    refine (O1.out _ h5).mono ?_
    rintro e w6 ⟨rfl, h6⟩
    have h6 := h5.trans h6
    go_wp2_with fail
    go_ret
    exact ⟨rfl, h6⟩
end Go.Proofs.YtdicelibjpmglaaDoor
