/-
  Layer 3: the walk of TupleOrders.
-/
import Derived.Test.YtdicelibjpmglaaGreatDoorLp
import Derived.Test.YtdicelibjpmglaaGreatDoorLc
namespace Go.Proofs.YtdicelibjpmglaaGreatDoor
open Go.RowKit
set_option linter.unusedVariables false
set_option linter.unusedSimpArgs false
attribute [local go_sem] run_store_float
open Tp (It)

set_option maxHeartbeats 8000000 in
set_option maxRecDepth 100000 in
theorem tupleOrders_walk {v v' : Value} {l l' : List It} (W : World) (hsh : W.ShapedOpen Tryz.prog) (hrow : Row W W.heap.size v l) (hrow' : Row W W.heap.size v' l') (hs : Tp.sz l ≤ 1000000000000) (hn : Tp.cnt l ≤ 1048576) (hs' : Tp.sz l' ≤ 1000000000000) (hn' : Tp.cnt l' ≤ 1048576) :
    Calls Tryz.prog 7 #[v, v'] W fun e w' => e = .returned (.bool true) ∧ Chg (fun _ => False) W w' := by
  obtain ⟨m, hm⟩ := (Tryz.laysM143).s1_3 W hsh
  have hlt := World.block_lt_of_cell? _ _ hm
  have KK : ∀ w2, Chg (fun _ => False) W w2 → Keep W W.heap.size w2 := fun w2 hc => (Keep.refl W _ (Nat.le_refl _)).chg hc (fun k hkB e => e)
  have HA := Lib.hid (fun w2 (hc : Chg (fun _ => False) W w2) => awake_calls w2 m ((hc.cell hlt (fun h => h)).trans hm))
  have C1 := Lib.hid (fun w2 (hc : Chg (fun _ => False) W w2) => order_calls hrow hrow' w2 (KK w2 hc) hs hs')
  have C2 := Lib.hid (fun w2 (hc : Chg (fun _ => False) W w2) => rordr_calls hrow hrow' w2 (KK w2 hc) hs hs')
  have R2 := Lib.hid (fun w2 (hc : Chg (fun _ => False) W w2) => rordr_calls hrow' hrow w2 (KK w2 hc) hs' hs)
  have HV := Lib.hid (fun w2 (hc : Chg (fun _ => False) W w2) => vast_calls hrow w2 (KK w2 hc) hn)
  have HV2 := Lib.hid (fun w2 (hc : Chg (fun _ => False) W w2) => vast_calls hrow' w2 (KK w2 hc) hn')
  have HL := Lib.hid (fun (h : Tp.cnt l ≤ 10000) w2 (hc : Chg (fun _ => False) W w2) => lent_calls _ _ _ _ _ hrow w2 (KK w2 hc) (Nat.lt_succ_self _) h)
  have HL2 := Lib.hid (fun (h : Tp.cnt l' ≤ 10000) w2 (hc : Chg (fun _ => False) W w2) => lent_calls _ _ _ _ _ hrow' w2 (KK w2 hc) (Nat.lt_succ_self _) h)
  have R1 := Lib.hid (fun w2 B u B' u' (h : Lent w2 B u l) (h' : Lent w2 B' u' l') => order_calls h'.row h.row w2 (Keep.refl w2 _ (Nat.le_refl _)) hs' hs)
  have HK := Lib.hid (fun w2 (hc : Chg (fun _ => False) W w2) B u (h : Lent w2 B u l) => kept_calls _ w2 B u v l h (hrow.here hc) (Nat.lt_succ_self _))
  have HK2 := Lib.hid (fun w2 (hc : Chg (fun _ => False) W w2) B u (h : Lent w2 B u l') => kept_calls _ w2 B u v' l' h (hrow'.here hc) (Nat.lt_succ_self _))
  obtain ⟨A, cap, rfl, -, -⟩ := hrow.slice
  obtain ⟨A', cap', rfl, -, -⟩ := hrow'.slice
  obtain ⟨x, hx⟩ : ∃ x, Tp.ord l l' = x := ⟨_, rfl⟩
  obtain ⟨y, hy⟩ : ∃ y, Tp.ord l' l = y := ⟨_, rfl⟩
  rw [hx] at C1 C2
  rw [hy] at R1 R2
  clear hrow hrow' hs hs' hx hy hm hlt KK hsh
  have tail : ∀ (b1 b2 : Bool), decide (10000 < Tp.cnt l) = b1 → decide (10000 < Tp.cnt l') = b2 → b1 = true ∨ b2 = true →
      Calls Tryz.prog 7 #[.slice A l.length cap, .slice A' l'.length cap'] W fun e w' => e = .returned (.bool true) ∧ Chg (fun _ => False) W w' := by
    intro b1 b2 h1 h2 h12
    rw [h1] at HV
    rw [h2] at HV2
    clear HL HL2 R1 R2 HK HK2 h1 h2
    go_enter Tryz.func7, Tryz.ntmps7
    go_wp2_with fail
    refine (C1.out _ (Chg.refl _ _)).mono ?_
    rintro e w1 ⟨rfl, h1⟩
    go_wp2_with fail
    refine (C2.out _ h1).mono ?_
    rintro e w2 ⟨rfl, h2⟩
    have h2 := h1.trans h2
    go_wp2_with fail
    refine (HA.out _ h2).mono ?_
    rintro e w3 ⟨rfl, h3⟩
    have h3 := h2.trans h3
    go_wp2_with fail
    refine (HV.out _ h3).mono ?_
    rintro e w4 ⟨rfl, h4⟩
    have h4 := h3.trans h4
    cases b1
    · obtain rfl : b2 = true := by simpa using h12
      go_wp2_with fail
      refine (HV2.out _ h4).mono ?_
      rintro e w5 ⟨rfl, h5⟩
      have h5 := h4.trans h5
      go_wp2_with fail
      go_ret
      exact ⟨rfl, h5⟩
    · go_wp2_with fail
      go_ret
      exact ⟨rfl, h4⟩
  by_cases hb : 10000 < Tp.cnt l
  · exact tail _ _ (decide_eq_true hb) rfl (.inl rfl)
  by_cases hb' : 10000 < Tp.cnt l'
  · exact tail _ _ rfl (decide_eq_true hb') (.inr rfl)
  clear tail
  rw [decide_eq_false hb] at HV
  rw [decide_eq_false hb'] at HV2
  have HL := Lib.hid ((HL.out) (by omega))
  have HL2 := Lib.hid ((HL2.out) (by omega))
  clear hb hb'
  go_enter Tryz.func7, Tryz.ntmps7
  go_wp2_with fail
  refine (C1.out _ (Chg.refl _ _)).mono ?_
  rintro e w1 ⟨rfl, h1⟩
  go_wp2_with fail
  refine (C2.out _ h1).mono ?_
  rintro e w2 ⟨rfl, h2⟩
  have h2 := h1.trans h2
  go_wp2_with fail
  refine (HA.out _ h2).mono ?_
  rintro e w3 ⟨rfl, h3⟩
  have h3 := h2.trans h3
  go_wp2_with fail
  refine (HV.out _ h3).mono ?_
  rintro e w4 ⟨rfl, h4⟩
  have h4 := h3.trans h4
  go_wp2_with fail
  refine (HV2.out _ h4).mono ?_
  rintro e w5 ⟨rfl, h5⟩
  have h5 := h4.trans h5
  go_wp2_with fail
  refine (HL.out _ h5).mono ?_
  rintro e w6 ⟨u1, rfl, hl1, h6⟩
  have h6' := h5.trans h6
  obtain ⟨g1, c1, rfl⟩ := hl1.form
  go_wp2_with fail
  refine (HL2.out _ h6').mono ?_
  rintro e w7 ⟨u2, rfl, hl2, h7⟩
  have h7' := h6'.trans h7
  have hl1 := hl1.keep h7 (fun _ _ h => h)
  obtain ⟨g2, c2, rfl⟩ := hl2.form
  clear h7 h6
  go_wp2_with fail
  refine (R1.out _ _ _ _ _ hl1 hl2).mono ?_
  rintro e w8 ⟨rfl, h8⟩
  have h8' := h7'.trans h8
  have hl1 := hl1.keep h8 (fun _ _ h => h)
  have hl2 := hl2.keep h8 (fun _ _ h => h)
  clear h8
  go_wp2_with fail
  refine (R2.out _ h8').mono ?_
  rintro e w9 ⟨rfl, h9⟩
  have h9' := h8'.trans h9
  have hl1 := hl1.keep h9 (fun _ _ h => h)
  have hl2 := hl2.keep h9 (fun _ _ h => h)
  clear h9
  go_wp2_with fail
  refine (HK.out _ h9' _ _ hl1).mono ?_
  rintro e w10 ⟨rfl, h10⟩
  have h10' := h9'.trans h10
  have hl2 := hl2.keep h10 (fun _ _ h => h)
  clear h10
  go_wp2_with fail
  refine (HK2.out _ h10' _ _ hl2).mono ?_
  rintro e w11 ⟨rfl, h11⟩
  have h11' := h10'.trans h11
  go_wp2_with fail
  go_ret
  exact ⟨rfl, h11'⟩
end Go.Proofs.YtdicelibjpmglaaGreatDoor
