/-
  Layer 3: the walk of TupleBegins.
-/
import Derived.Test.YtdicelibjpmglaaDoorBi
import Derived.Test.YtdicelibjpmglaaDoorUn
import Derived.Test.YtdicelibjpmglaaDoorTu
namespace Go.Proofs.YtdicelibjpmglaaDoor
open Go.RowKit
set_option linter.unusedVariables false
set_option linter.unusedSimpArgs false
attribute [local go_sem] run_store_float
open Tp (It)

theorem begins_all {a b : List It} (ha : Tp.check a = 0) (hb : Tp.check b = 0) (ia : Tp.Ins a) (ib : Tp.Ins b) : ∃ bb : Bool,
    (decide (b.length ≤ a.length) && Tp.alikeB (a.take b.length) b) = bb ∧ (decide ((Tp.pack b).length ≤ (Tp.pack a).length) && ((Tp.pack a).take (Tp.pack b).length == Tp.pack b)) = bb ∧
    (!(Op.bytesLess (Tp.pack a) (Tp.pack b)) && ((Tp.next (Tp.pack b) == []) || Op.bytesLess (Tp.pack a) (Tp.next (Tp.pack b)))) = bb := by
  obtain ⟨-, -, ka, -⟩ := Tp.check_ok ha
  obtain ⟨-, -, kb, -⟩ := Tp.check_ok hb
  have ea : Tp.pack a = Tp.byt a := by unfold Tp.pack; rw [if_pos ha]
  have eb : Tp.pack b = Tp.byt b := by unfold Tp.pack; rw [if_pos hb]
  have h1 := Tp.begins_iff a b ka kb ia ib
  rw [ea, eb]
  have h2 := Tp.within_iff (Tp.byt b) (Tp.byt a)
  haveI := Classical.propDecidable (∃ r, Tp.byt a = Tp.byt b ++ r)
  refine ⟨decide (∃ r, Tp.byt a = Tp.byt b ++ r), ?_, ?_, ?_⟩
  · rw [Bool.eq_iff_iff, Bool.and_eq_true, decide_eq_true_iff, decide_eq_true_iff, Tp.alikeB_iff]
    exact h1.symm
  · rw [Bool.eq_iff_iff, Bool.and_eq_true, decide_eq_true_iff, decide_eq_true_iff, beq_iff_eq]
    constructor
    · rintro ⟨h3, h4⟩
      exact ⟨(Tp.byt a).drop (Tp.byt b).length, by have := List.take_append_drop (Tp.byt b).length (Tp.byt a); rw [h4] at this; exact this.symm⟩
    · rintro ⟨r, hr⟩
      rw [hr]; simp
  · rw [Bool.eq_iff_iff, decide_eq_true_iff, ← h2, less_cmp, less_cmp]
    have h3 := cmpL_anti (Tp.byt a) (Tp.byt b)
    have h4 := cmpL_le (Tp.byt a) (Tp.byt b)
    simp only [Bool.and_eq_true, Bool.or_eq_true, Bool.not_eq_true', decide_eq_false_iff_not, decide_eq_true_iff, beq_iff_eq]
    rw [show (Tp.cmpL (Tp.byt b) (Tp.byt a) ≤ 0 ↔ ¬ Tp.cmpL (Tp.byt a) (Tp.byt b) = -1) by omega]

set_option maxHeartbeats 8000000 in
set_option maxRecDepth 100000 in
theorem tupleBegins_walk {v v' : Value} {l l' : List It} (W : World) (hsh : W.ShapedOpen Tryd.prog) (hrow : Row W W.heap.size v l) (hrow' : Row W W.heap.size v' l') (hs : Tp.sz l ≤ 1000000000000) (hs' : Tp.sz l' ≤ 1000000000000) :
    Calls Tryd.prog 7 #[v, v'] W fun e w' => e = .returned (.bool true) ∧ Chg (fun _ => False) W w' := by
  obtain ⟨m, hm⟩ := (Tryd.laysM143).s1_3 W hsh
  have hlt := World.block_lt_of_cell? _ _ hm
  have hG : Glob W W.heap.size := ⟨⟨m, hm⟩, hlt⟩
  have KK : ∀ w2, Chg (fun _ => False) W w2 → Keep W W.heap.size w2 := fun w2 hc => (Keep.refl W _ (Nat.le_refl _)).chg hc (fun k hkB e => e)
  have HA := Lib.hid (awake_calls W m hm)
  have P1 := Lib.hid (fun w2 (hc : Chg (fun _ => False) W w2) => pack_calls hrow hG w2 (KK w2 hc) hs)
  have P2 := Lib.hid (fun w2 (hc : Chg (fun _ => False) W w2) => pack_calls hrow' hG w2 (KK w2 hc) hs')
  have U2 := Lib.hid (fun w2 (hc : Chg (fun _ => False) W w2) => under_calls hrow' hG w2 (KK w2 hc) hs')
  obtain ⟨A, cap, rfl, hcap, hl1⟩ := hrow.slice
  obtain ⟨A', cap', rfl, -, hl2⟩ := hrow'.slice
  have AL := Lib.hid (fun (h : l'.length ≤ l.length) w2 (hc : Chg (fun _ => False) W w2) => alike_calls _ _ _ _ _ _ _ (hrow.take h) hrow' w2 (KK w2 hc) (Nat.lt_succ_self _))
  have hbb := fun (h : Tp.check l = 0) (h' : Tp.check l' = 0) => begins_all h h' hrow.ins hrow'.ins
  obtain ⟨x, hx⟩ : ∃ x, Tp.check l = x := ⟨_, rfl⟩
  obtain ⟨y, hy⟩ : ∃ y, Tp.check l' = y := ⟨_, rfl⟩
  have hq0 := pack_eq hy
  have hp4 : (Tp.pack l).length ≤ 4096 := by
    unfold Tp.pack
    split
    · rename_i h; exact (Tp.check_ok h).2.2.2
    · simp
  have hq4 : (Tp.pack l').length ≤ 4096 := by
    unfold Tp.pack
    split
    · rename_i h; exact (Tp.check_ok h).2.2.2
    · simp
  rw [hx] at P1 hbb
  rw [hy] at P2 U2 hbb
  obtain ⟨p, hp⟩ : ∃ p, Tp.pack l = p := ⟨_, rfl⟩
  obtain ⟨q, hq⟩ : ∃ q, Tp.pack l' = q := ⟨_, rfl⟩
  rw [hp] at P1 hbb hp4
  rw [hq] at P2 U2 hbb hq0 hq4
  obtain ⟨hi, hhi⟩ : ∃ hi, Tp.next q = hi := ⟨_, rfl⟩
  rw [hhi] at U2 hbb
  obtain ⟨al, hal⟩ : ∃ al, Tp.alikeB (l.take l'.length) l' = al := ⟨_, rfl⟩
  rw [hal] at AL hbb
  have Hq0 := Lib.hid hq0
  have Hhi := Lib.hid hhi
  have Hbb := Lib.hid hbb
  clear hrow hrow' hs hs' hx hy hm hlt hG KK hsh hp hq hhi hal hq0 hbb
  by_cases hy0 : y = 0
  · subst hy0
    by_cases hx0 : x = 0
    · subst hx0
      obtain ⟨bb, b1, b2, b3⟩ := (Hbb.out) rfl rfl
      obtain ⟨c1, k1⟩ : ∃ c1, decide (l'.length ≤ l.length) = c1 := ⟨_, rfl⟩
      obtain ⟨c2, k2⟩ : ∃ c2, decide (q.length ≤ p.length) = c2 := ⟨_, rfl⟩
      obtain ⟨d2, k3⟩ : ∃ d2, (p.take q.length == q) = d2 := ⟨_, rfl⟩
      obtain ⟨c3, k4⟩ : ∃ c3, Op.bytesLess p q = c3 := ⟨_, rfl⟩
      obtain ⟨d3, k5⟩ : ∃ d3, (hi == ([] : List UInt8)) = d3 := ⟨_, rfl⟩
      obtain ⟨e3, k6⟩ : ∃ e3, Op.bytesLess p hi = e3 := ⟨_, rfl⟩
      rw [k1] at b1
      rw [k2, k3] at b2
      rw [k4, k5, k6] at b3
      have hcases : (c1 = true ∧ al = true ∧ c2 = true ∧ d2 = true ∧ c3 = false ∧ (d3 = true ∨ (d3 = false ∧ e3 = true))) ∨
          ((c1 = false ∨ (c1 = true ∧ al = false)) ∧ (c2 = false ∨ (c2 = true ∧ d2 = false)) ∧ (c3 = true ∨ (c3 = false ∧ d3 = false ∧ e3 = false))) := by
        revert b1 b2 b3
        cases c1 <;> cases al <;> cases c2 <;> cases d2 <;> cases c3 <;> cases d3 <;> cases e3 <;> cases bb <;> simp
      have j1 : decide ((l'.length : Int) ≤ (l.length : Int)) = c1 := by rw [← k1]; simp only [Int.ofNat_le]
      have j2 : decide ((q.length : Int) ≤ (p.length : Int)) = c2 := by rw [← k2]; simp only [Int.ofNat_le]
      have Hk5 := Lib.hid k5
      have Hk3 := Lib.hid k3
      have hex : (⟨p.toArray⟩ : ByteArray).extract 0 q.length = ⟨(p.take q.length).toArray⟩ := by have := extract_S p 0 q.length; simpa using this
      clear b1 b2 b3 Hbb Hq0 k5 k3
      go_enter Tryd.func7, Tryd.ntmps7
      go_wp2_with fail
      refine HA.out.mono ?_
      rintro e w1 ⟨rfl, h1⟩
      go_wp2_with fail
      refine (P1.out _ h1).mono ?_
      rintro e w2 ⟨rfl, h2⟩
      have h2 := h1.trans h2
      go_wp2_with fail
      refine (P2.out _ h2).mono ?_
      rintro e w3 ⟨rfl, h3⟩
      have h3 := h2.trans h3
      go_wp2_with fail
      refine (U2.out _ h3).mono ?_
      rintro e w4 ⟨rfl, h4⟩
      have h4 := h3.trans h4
      rcases hcases with ⟨rfl, rfl, rfl, rfl, rfl, rfl | ⟨rfl, rfl⟩⟩ | ⟨rfl | ⟨rfl, rfl⟩, rfl | ⟨rfl, rfl⟩, rfl | ⟨rfl, rfl, rfl⟩⟩
      all_goals
        have k5 := Hk5.out
        have k3 := Hk3.out
        try (have k3p : ¬ (List.take q.length p = q) := by simpa using k3)
        try (have k3q : List.take q.length p = q := by simpa using k3)
        first
          | (have hle : l'.length ≤ l.length := of_decide_eq_true k1
             have AL := Lib.hid ((AL.out) hle)
             have hle2 : l'.length ≤ cap := Nat.le_trans hle hcap
             go_wp2_with fail
             refine (AL.out _ h4).mono ?_
             rintro e w5 ⟨rfl, h5⟩
             have h5 := h4.trans h5
             first
              | (have hql : q.length ≤ p.length := of_decide_eq_true k2
                 go_wp2_with fail
                 go_ret
                 exact ⟨rfl, h5⟩)
              | (go_wp2_with fail
                 go_ret
                 exact ⟨rfl, h5⟩))
          | (first
              | (have hql : q.length ≤ p.length := of_decide_eq_true k2
                 go_wp2_with fail
                 go_ret
                 exact ⟨rfl, h4⟩)
              | (go_wp2_with fail
                 go_ret
                 exact ⟨rfl, h4⟩))
    · have x1 : (x != 0) = true := by simpa using hx0
      have x2 : (x == 0) = false := by simpa using hx0
      clear hx0
      go_enter Tryd.func7, Tryd.ntmps7
      go_wp2_with fail
      refine HA.out.mono ?_
      rintro e w1 ⟨rfl, h1⟩
      go_wp2_with fail
      refine (P1.out _ h1).mono ?_
      rintro e w2 ⟨rfl, h2⟩
      have h2 := h1.trans h2
      go_wp2_with fail
      refine (P2.out _ h2).mono ?_
      rintro e w3 ⟨rfl, h3⟩
      have h3 := h2.trans h3
      go_wp2_with fail
      refine (U2.out _ h3).mono ?_
      rintro e w4 ⟨rfl, h4⟩
      have h4 := h3.trans h4
      go_wp2_with fail
      go_ret
      exact ⟨rfl, h4⟩
  · have y1 : (y != 0) = true := by simpa using hy0
    have y2 : (y == 0) = false := by simpa using hy0
    have hq := Hq0.out
    rw [if_neg hy0] at hq
    subst hq
    obtain rfl : hi = [] := by rw [← Hhi.out]; rfl
    clear hy0
    by_cases hx0 : x = 0
    · subst hx0
      go_enter Tryd.func7, Tryd.ntmps7
      go_wp2_with fail
      refine HA.out.mono ?_
      rintro e w1 ⟨rfl, h1⟩
      go_wp2_with fail
      refine (P1.out _ h1).mono ?_
      rintro e w2 ⟨rfl, h2⟩
      have h2 := h1.trans h2
      go_wp2_with fail
      refine (P2.out _ h2).mono ?_
      rintro e w3 ⟨rfl, h3⟩
      have h3 := h2.trans h3
      go_wp2_with fail
      refine (U2.out _ h3).mono ?_
      rintro e w4 ⟨rfl, h4⟩
      have h4 := h3.trans h4
      go_wp2_with fail
      go_ret
      exact ⟨rfl, h4⟩
    · have x1 : (x != 0) = true := by simpa using hx0
      have x2 : (x == 0) = false := by simpa using hx0
      clear hx0
      go_enter Tryd.func7, Tryd.ntmps7
      go_wp2_with fail
      refine HA.out.mono ?_
      rintro e w1 ⟨rfl, h1⟩
      go_wp2_with fail
      refine (P1.out _ h1).mono ?_
      rintro e w2 ⟨rfl, h2⟩
      have h2 := h1.trans h2
      go_wp2_with fail
      refine (P2.out _ h2).mono ?_
      rintro e w3 ⟨rfl, h3⟩
      have h3 := h2.trans h3
      go_wp2_with fail
      refine (U2.out _ h3).mono ?_
      rintro e w4 ⟨rfl, h4⟩
      have h4 := h3.trans h4
      go_wp2_with fail
      go_ret
      exact ⟨rfl, h4⟩
end Go.Proofs.YtdicelibjpmglaaDoor
