/-
  Layer 3: the document's Under; the walk of TupleUnders.
-/
import Derived.Test.YtdicelibjpmglaaGreatDoorRq
import Derived.Test.YtdicelibjpmglaaGreatDoorUn
import Derived.Test.YtdicelibjpmglaaGreatDoorLc
import Derived.RegionTactic
import Derived.ChangeAlike
namespace Go.Proofs.YtdicelibjpmglaaGreatDoor
open Go.RowKit
set_option linter.unusedVariables false
set_option linter.unusedSimpArgs false
attribute [local go_sem] run_store_float
open Tp (It)

set_option maxHeartbeats 4000000 in
set_option maxRecDepth 100000 in
theorem runder_calls {w0 : World} {B : Nat} {v : Value} {l : List It} (hrow : Row w0 B v l) (w : World) (hk : Keep w0 B w) (hs : Tp.sz l ≤ 1000000000000) :
    Calls Tryz.prog 21 #[v] w fun e w' => e = .returned (.tuple #[S (Tp.pack l), S (Tp.next (Tp.pack l)), .int .i64 (Tp.check l)]) ∧ Chg (fun _ => False) w w' := by
  have HP := Lib.hid (rpack_calls hrow w hk hs)
  obtain ⟨A, cap, rfl, -, -⟩ := hrow.slice
  have hq4 : (Tp.pack l).length ≤ 4096 := by
    unfold Tp.pack
    split
    · rename_i h; exact (Tp.check_ok h).2.2.2
    · simp
  obtain ⟨c, hc⟩ : ∃ c, Tp.check l = c := ⟨_, rfl⟩
  have hq1 := pack_eq hc
  rw [hc] at HP ⊢
  obtain ⟨q, hq⟩ : ∃ q, Tp.pack l = q := ⟨_, rfl⟩
  rw [hq] at HP hq1 hq4 ⊢
  clear hrow hk hs hc hq
  by_cases h0 : c = 0
  · subst h0
    clear hq1
    go_enter Tryz.func21, Tryz.ntmps21
    go_wp2_with fail
    refine HP.out.mono ?_
    rintro e w2 ⟨rfl, hc2⟩
    go_wp2_with fail
    go_loopw [7] (fun nv wr => ∃ j : Nat, j ≤ q.length ∧ nv = .int .i64 j ∧ Tp.next (q.take j) = Tp.next q ∧ Chg (fun _ => False) w wr) (fun nv _ => (intOf nv).toNat)
    case atStart => exact ⟨q.length, Nat.le_refl _, rfl, by rw [List.take_length], hc2⟩
    case round =>
      obtain ⟨j, hj, rfl, hnx, hcw⟩ := hrel
      have Hcw := Lib.hid hcw
      clear hcw
      rcases Nat.eq_zero_or_pos j with hj0 | hj0
      · subst hj0
        have Hfin := Lib.hid (show Tp.next q = [] by rw [← hnx]; rfl)
        clear hnx
        go_wp2_with fail
        go_ret3
        rw [Hfin.out]
        exact ⟨rfl, Hcw.out⟩
      · obtain ⟨i, rfl⟩ : ∃ i, j = i + 1 := ⟨j - 1, by omega⟩
        have hlt : i < q.length := by omega
        obtain ⟨x, hx, hgx, htx⟩ := byte_at q hlt
        have Hnx := Lib.hid hnx
        have hpos : decide (0 < ((i + 1 : Nat) : Int)) = true := by rw [decide_eq_true_iff]; omega
        by_cases h255 : x = 255
        · subst h255
          have Hstr := Lib.hid (show Tp.next (q.take i) = Tp.next q by rw [← hnx, htx, Tp.next_strip])
          have e1 : (((255 : UInt8).toNat : Int) == 255) = true := rfl
          clear hnx hx htx
          go_wp2_with fail
          go_round
          case rel => exact ⟨i, by omega, rfl, Hstr.out, Hcw.out⟩
          case measure => simp [intOf]
        · have hx0 : x.toNat ≤ 254 := by
            have h1 : x.toNat ≠ 255 := fun e => h255 (UInt8.toNat_inj.1 (by simpa using e))
            have h2 := x.toNat_lt
            omega
          have e1 : ((x.toNat : Int) == 255) = false := by rw [beq_eq_false_iff_ne]; omega
          have hend := Tp.strip_end hx h255
          have hxx : ((x.toNat : Int) + 1) = ((x + 1).toNat : Int) := by rw [Tp.up_toNat h255]; rfl
          have hcv := fun w => cvt_new w _ _ hxx
          have hcd := fun w => cvt_newd w _ _ hxx
          have hex : (⟨q.toArray⟩ : ByteArray).extract 0 i = ⟨(q.take i).toArray⟩ := by have := extract_S q 0 i; simpa using this
          have hadd := fun w => addSS (q.take i) [x + 1] (by rw [List.length_take]; simp; omega) w
          have Hend := Lib.hid (show Tp.next q = q.take i ++ [x + 1] from (Hnx.out).symm.trans hend)
          have hlt2 : (i : Int) ≤ q.length := by omega
          clear hnx hx htx hend hxx h255
          go_wp2_with fail
          go_region
          all_goals
            go_wp2_with fail
            go_ret3
            rw [Hend.out]
            refine ⟨rfl, ?_⟩
            first
              | exact ((Hcw.out).drew).alloc _
              | exact ((Hcw.out).alloc _).drew
  · have c1 : (c != 0) = true := by simpa using h0
    have c2 : (c == 0) = false := by simpa using h0
    rw [if_neg h0] at hq1
    subst hq1
    clear h0
    go_enter Tryz.func21, Tryz.ntmps21
    go_wp2_with fail
    refine HP.out.mono ?_
    rintro e w2 ⟨rfl, hc2⟩
    go_wp2_with fail
    go_ret3
    exact ⟨rfl, hc2⟩

set_option maxHeartbeats 8000000 in
set_option maxRecDepth 100000 in
theorem tupleUnders_walk {v : Value} {l : List It} (W : World) (hsh : W.ShapedOpen Tryz.prog) (hrow : Row W W.heap.size v l) (hs : Tp.sz l ≤ 1000000000000) (hn : Tp.cnt l ≤ 1048576) :
    Calls Tryz.prog 5 #[v] W fun e w' => e = .returned (.bool true) ∧ Chg (fun _ => False) W w' := by
  obtain ⟨m, hm⟩ := (Tryz.laysM143).s1_3 W hsh
  have hlt := World.block_lt_of_cell? _ _ hm
  have hG : Glob W W.heap.size := ⟨⟨m, hm⟩, hlt⟩
  have KK : ∀ w2, Chg (fun _ => False) W w2 → Keep W W.heap.size w2 := fun w2 hc => (Keep.refl W _ (Nat.le_refl _)).chg hc (fun k hkB e => e)
  have HA := Lib.hid (fun w2 (hc : Chg (fun _ => False) W w2) => awake_calls w2 m ((hc.cell hlt (fun h => h)).trans hm))
  have C1 := Lib.hid (fun w2 (hc : Chg (fun _ => False) W w2) => under_calls hrow hG w2 (KK w2 hc) hs)
  have C2 := Lib.hid (fun w2 (hc : Chg (fun _ => False) W w2) => runder_calls hrow w2 (KK w2 hc) hs)
  have HV := Lib.hid (fun w2 (hc : Chg (fun _ => False) W w2) => vast_calls hrow w2 (KK w2 hc) hn)
  have HL := Lib.hid (fun (h : Tp.cnt l ≤ 10000) w2 (hc : Chg (fun _ => False) W w2) => lent_calls _ _ _ _ _ hrow w2 (KK w2 hc) (Nat.lt_succ_self _) h)
  have C3 := Lib.hid (fun w2 (hc : Chg (fun _ => False) W w2) B v' (h : Lent w2 B v' l) => under_calls h.row ⟨⟨m, (hc.cell hlt (fun h => h)).trans hm⟩, Nat.lt_of_lt_of_le hlt hc.size⟩ w2 (Keep.refl w2 _ (Nat.le_refl _)) hs)
  have HK := Lib.hid (fun w2 (hc : Chg (fun _ => False) W w2) B v' (h : Lent w2 B v' l) => kept_calls _ w2 B v' v l h (hrow.here hc) (Nat.lt_succ_self _))
  obtain ⟨A, cap, rfl, -, -⟩ := hrow.slice
  obtain ⟨c, hc⟩ : ∃ c, Tp.check l = c := ⟨_, rfl⟩
  obtain ⟨hi, hhi⟩ : ∃ hi, Tp.next (Tp.pack l) = hi := ⟨_, rfl⟩
  rw [hc, hhi] at C1 C2 C3
  obtain ⟨p, hp⟩ : ∃ p, Tp.pack l = p := ⟨_, rfl⟩
  rw [hp] at C1 C2 C3
  clear hrow hs hc hhi hp hm hlt KK hsh hG
  by_cases hb : 10000 < Tp.cnt l
  · rw [decide_eq_true hb] at HV
    clear HL C3 HK hb
    go_enter Tryz.func5, Tryz.ntmps5
    go_wp2_with fail
    refine (C2.out _ (Chg.refl _ _)).mono ?_
    rintro e w1 ⟨rfl, h1⟩
    go_wp2_with fail
    refine (C1.out _ h1).mono ?_
    rintro e w2 ⟨rfl, h2⟩
    have h2 := h1.trans h2
    go_wp2_with fail
    refine (HA.out _ h2).mono ?_
    rintro e w3 ⟨rfl, h3⟩
    have h3 := h2.trans h3
    go_wp2_with fail
    refine (HV.out _ h3).mono ?_
    rintro e w4 ⟨rfl, h4⟩
    have h4 := h3.trans h4
    go_wp2_with fail
    go_ret
    exact ⟨rfl, h4⟩
  · rw [decide_eq_false hb] at HV
    have HL := Lib.hid ((HL.out) (by omega))
    clear hb
    go_enter Tryz.func5, Tryz.ntmps5
    go_wp2_with fail
    refine (C2.out _ (Chg.refl _ _)).mono ?_
    rintro e w1 ⟨rfl, h1⟩
    go_wp2_with fail
    refine (C1.out _ h1).mono ?_
    rintro e w2 ⟨rfl, h2⟩
    have h2 := h1.trans h2
    go_wp2_with fail
    refine (HA.out _ h2).mono ?_
    rintro e w3 ⟨rfl, h3⟩
    have h3 := h2.trans h3
    go_wp2_with fail
    refine (HV.out _ h3).mono ?_
    rintro e w4 ⟨rfl, h4⟩
    have h4 := h3.trans h4
    go_wp2_with fail
    refine (HL.out _ h4).mono ?_
    rintro e w5 ⟨v5, rfl, hlent, h5⟩
    have h5 := h4.trans h5
    obtain ⟨g5, c5, rfl⟩ := hlent.form
    go_wp2_with fail
    refine (C3.out _ h5 _ _ hlent).mono ?_
    rintro e w6 ⟨rfl, h6⟩
    have h6' := h5.trans h6
    have hl7 := hlent.keep h6 (fun _ _ h => h)
    go_wp2_with fail
    refine (HK.out _ h6' _ _ hl7).mono ?_
    rintro e w8 ⟨rfl, h8⟩
    have h8' := h6'.trans h8
    go_wp2_with fail
    go_ret
    exact ⟨rfl, h8'⟩
end Go.Proofs.YtdicelibjpmglaaGreatDoor
