/-
  Layer 6: the document's May and Check of a record.
-/
import Derived.Test.YtlhdbkbgedlmnaaDoorMchk3
namespace Go.Proofs.YtlhdbkbgedlmnaaDoor
open Go.RowKit
set_option linter.unusedVariables false
attribute [local go_sem ↓] loadDig_eq ldM_eq

theorem tailZ_iff {n : Nat} {d : List UInt8} (hd : d.length = 32) : Mt.tailZ (n : Int) d = true ↔ ∀ j b, n ≤ j → d[j]? = some b → b = 0 := by
  unfold Mt.tailZ
  rw [decide_eq_true_iff]
  have e : (n : Int).toNat = n := by simp
  rw [e]
  constructor
  · intro h j b hj hb
    have h1 : (d.drop n)[j - n]? = some b := by rw [List.getElem?_drop, show n + (j - n) = j by omega, hb]
    rw [h, List.getElem?_replicate] at h1
    split at h1
    · injection h1 with h1; exact h1.symm
    · cases h1
  · intro h
    apply List.ext_getElem?
    intro i
    rw [List.getElem?_drop, List.getElem?_replicate]
    by_cases hi : i < 32 - n
    · rw [if_pos hi, List.getElem?_eq_getElem (by omega)]
      rw [h (n + i) _ (by omega) (List.getElem?_eq_getElem (by omega))]
    · rw [if_neg hi, List.getElem?_eq_none (by omega)]
theorem mayM_no {f : Mt.F} {m : Mt.M} (h : ¬ (Mt.numsB m = true ∧ Mt.place m.page m.pages = true ∧ Mt.place m.list m.pages = true ∧ Mt.rootB m = true ∧ Mt.tailZ f.width m.sum = true)) : Mt.mayM f m = false := by
  cases hk : Mt.mayM f m
  · rfl
  · exfalso
    apply h
    unfold Mt.mayM at hk
    simp only [Bool.and_eq_true] at hk
    obtain ⟨⟨⟨⟨b, c⟩, d⟩, e⟩, g⟩ := hk
    exact ⟨b, c, d, e, g⟩
theorem mayM_root {f : Mt.F} {m : Mt.M} (h1 : Mt.numsB m = true) (h2 : Mt.place m.page m.pages = true) (h3 : Mt.place m.list m.pages = true) (h5 : Mt.tailZ f.width m.sum = true) : Mt.mayM f m = Mt.rootB m := by
  unfold Mt.mayM
  rw [h1, h2, h3, h5]; simp

set_option maxHeartbeats 4000000 in
set_option maxRecDepth 100000 in
theorem may_calls (p : Int) (n : Nat) (m : Mt.M) (w : World) (hm : m.Ok) (hw1 : 1 ≤ n) (hw2 : n ≤ 32) :
    Calls Tryd.prog 26 #[.agg #[.int .i64 p, .int .i64 n], .agg (mcells m)] w fun e w' => e = .returned (.bool (Mt.mayM ⟨p, n⟩ m)) ∧ Chg (fun _ => False) w w' := by
  have hms := hm.sum
  have Hms := Lib.hid hms
  obtain ⟨x1, x2, -, x4, x5, x6, x7⟩ := hm
  have hb : Blk ((w.alloc (.cells #[.int .i64 p, .int .i64 (n : Int)] 23)).alloc (.cells (mcells m) 31)) (w.heap.size + 1) 31 (mcells m) := by
    have := Blk.new (w.alloc (.cells #[.int .i64 p, .int .i64 (n : Int)] 23)) 31 (mcells m)
    have e : (w.alloc (.cells #[.int .i64 p, .int .i64 (n : Int)] 23)).heap.size = w.heap.size + 1 := by simp
    rwa [e] at this
  have hch := ((Chg.refl (fun _ => False) w).alloc (.cells #[.int .i64 p, .int .i64 (n : Int)] 23)).alloc (.cells (mcells m) 31)
  have hcs := MCells.of_blk hb hms
  have k0 := hcs.c0
  have k1 := hcs.c1
  have k34 := hcs.c34
  have k35 := hcs.c35
  have k36 := hcs.c36
  have k37 := hcs.c37
  simp only [Nat.zero_add] at k0 k1 k34 k35 k36 k37
  have Hsum := Lib.hid hcs.sum
  clear hms hb hcs
  go_enter Tryd.func26, Tryd.ntmps26
  go_wp2_with (go_at_call 36; refine (placeR_calls _ _ _).mono ?_; rintro e w' ⟨rfl, rfl⟩)
  all_goals
    first
      | (go_ret
         refine ⟨ret_bool (mayM_no (fun h => ?_)).symm, hch⟩
         clear k0 k1 k34 k35 k36 k37 hch Hsum
         obtain ⟨h2, h3, h4, h5, -⟩ := h
         have g2 := Mt.numsB_iff.1 h2
         have g5 := Mt.rootB_iff.1 h5
         first | contradiction | omega | (rcases zeroB m.cnt with ⟨c1, d1⟩ | ⟨c1, d1⟩ <;> rcases zeroB m.page with ⟨c2, d2⟩ | ⟨c2, d2⟩ <;> rcases zeroB m.list with ⟨c4, d4⟩ | ⟨c4, d4⟩ <;> first | omega | (simp only [d1, d2, bne, d4] at *; first | omega | contradiction | (simp_all; done) | (simp_all; omega))))
      | skip
  all_goals
    have hn2 : Mt.numsB m = true := Mt.numsB_iff.2 (by omega)
    have hp1 : Mt.place m.page m.pages = true := by assumption
    have hp2 : Mt.place m.list m.pages = true := by assumption
    have hR : ¬ (m.page = m.list ∧ m.list ≠ 0) := by
      clear k0 k1 k34 k35 k36 k37 hch Hsum
      first | omega | (rintro ⟨-, h⟩; rcases zeroB m.list with ⟨c4, d4⟩ | ⟨c4, d4⟩ <;> first | omega | (simp only [bne, d4] at *; first | contradiction | simp_all))
    have Hn2 := Lib.hid hn2
    have Hp1 := Lib.hid hp1
    have Hp2 := Lib.hid hp2
    have HR := Lib.hid hR
    clear hn2 hp1 hp2 hR
    go_loop [5] (fun iv => ∃ k : Nat, n ≤ k ∧ k ≤ 32 ∧ iv = .int .i64 k ∧ ∀ (j : Nat) (b : UInt8), n ≤ j → j < k → m.sum[j]? = some b → b = 0) (fun iv => 32 - (intOf iv).toNat)
    case atStart => exact ⟨n, Nat.le_refl _, hw2, rfl, fun j b h1 h2 => by omega⟩
    case round =>
      obtain ⟨k, hk1, hk2, rfl, hz⟩ := hrel
      have Hz := Lib.hid hz
      clear hz
      by_cases hk : k < 32
      · obtain ⟨b, hb⟩ : ∃ b, m.sum[k]? = some b := ⟨m.sum[k]'(by rw [Hms.out]; exact hk), List.getElem?_eq_getElem _⟩
        have kk := Hsum.out k b hb
        rw [Nat.zero_add] at kk
        have Hb := Lib.hid hb
        clear hb
        by_cases hb0 : b = 0
        · have hbz : ((b.toNat : Int) != 0) = false := by rw [hb0]; rfl
          have Hb0 := Lib.hid hb0
          clear hb0
          go_wp2_with fail
          go_round
          case rel =>
            refine ⟨k + 1, by omega, by omega, by go_num, fun j c h1 h2 h3 => ?_⟩
            rcases Nat.lt_or_ge j k with h | h
            · exact Hz.out j c h1 h h3
            · obtain rfl : j = k := by omega
              rw [Hb.out] at h3
              injection h3 with h3
              rw [← h3]; exact Hb0.out
          case measure => simp [intOf]; omega
        · have hbz : ((b.toNat : Int) != 0) = true := by
            rw [bne_iff_ne]
            intro h
            exact hb0 (UInt8.toNat_inj.1 (by simpa using h))
          have Hno := Lib.hid (mayM_no (f := ⟨p, (n : Int)⟩) (m := m) (fun h => hb0 ((tailZ_iff Hms.out).1 h.2.2.2.2 k b hk1 Hb.out)))
          clear hb0
          go_wp2_with fail
          go_ret
          exact ⟨ret_bool Hno.out.symm, hch⟩
      · obtain rfl : k = 32 := by omega
        have ht : Mt.tailZ (n : Int) m.sum = true := (tailZ_iff Hms.out).2 (fun j b h1 h2 => Hz.out j b h1 (by have := (List.getElem?_eq_some_iff.1 h2).1; rw [Hms.out] at this; exact this) h2)
        have Hm := Lib.hid (mayM_root (f := ⟨p, (n : Int)⟩) Hn2.out Hp1.out Hp2.out ht)
        clear ht
        go_wp2_with fail
        all_goals
          go_ret
          refine ⟨ret_bool ?_, hch⟩
          rw [Hm.out]
          unfold Mt.rootB
          rw [Bool.eq_iff_iff]
          have hR := HR.out
          clear k0 k1 k34 k35 k36 k37 hch Hsum Hz Hm
          rcases zeroB m.cnt with ⟨c1, d1⟩ | ⟨c1, d1⟩ <;> rcases zeroB m.page with ⟨c2, d2⟩ | ⟨c2, d2⟩ <;> rcases zeroB m.rver with ⟨c3, d3⟩ | ⟨c3, d3⟩ <;> first | omega | (simp_all; done) | (simp_all; omega) | (simp; omega)

set_option maxHeartbeats 1000000 in
set_option maxRecDepth 100000 in
theorem rcheck_calls (f : Mt.F) (m : Mt.M) (w : World) (hm : m.Ok) :
    Calls Tryd.prog 13 #[FV f, .agg (mcells m)] w fun e w' => e = .returned (.int .i64 (chk f m)) ∧ Chg (fun _ => False) w w' := by
  obtain ⟨p, wd⟩ := f
  have hms := hm.sum
  have hb : Blk ((w.alloc (.cells #[.int .i64 p, .int .i64 wd] 23)).alloc (.cells (mcells m) 31)) (w.heap.size + 1) 31 (mcells m) := by
    have := Blk.new (w.alloc (.cells #[.int .i64 p, .int .i64 wd] 23)) 31 (mcells m)
    have e : (w.alloc (.cells #[.int .i64 p, .int .i64 wd] 23)).heap.size = w.heap.size + 1 := by simp
    rwa [e] at this
  have hbf : Blk ((w.alloc (.cells #[.int .i64 p, .int .i64 wd] 23)).alloc (.cells (mcells m) 31)) w.heap.size 23 #[.int .i64 p, .int .i64 wd] := (Blk.new w 23 #[.int .i64 p, .int .i64 wd]).alloc _
  have hch := ((Chg.refl (fun _ => False) w).alloc (.cells #[.int .i64 p, .int .i64 wd] 23)).alloc (.cells (mcells m) 31)
  have Hms := Lib.hid hms
  have Hmo := Lib.hid hm
  clear hms hm
  by_cases hF : Mt.mayF ⟨p, wd⟩ = true
  · have hF' := Mt.mayF_iff.1 hF
    obtain ⟨-, hw1, hw2⟩ := hF'
    dsimp only at hw1 hw2
    obtain ⟨n, hn⟩ : ∃ n : Nat, n = wd.toNat := ⟨_, rfl⟩
    obtain rfl : wd = (n : Int) := by omega
    clear hn
    have HF := Lib.hid hF
    have hok : Mt.ok ⟨p, n⟩ m = Mt.mayM ⟨p, n⟩ m := by unfold Mt.ok; rw [hF]; simp
    cases hM : Mt.mayM ⟨p, n⟩ m
    all_goals
      rw [hM] at hok
      have Hck := Lib.hid (show chk ⟨p, n⟩ m = _ from by first | exact chk_yes hok | exact chk_no (by rw [hok]; simp))
      have HM := Lib.hid hM
      clear hok hM
      try clear hF
      go_enter Tryd.func13, Tryd.ntmps13
      go_wp2_with fail
      refine (mayframe_calls p n _).mono ?_
      rintro e w1 ⟨rfl, hc1⟩
      rw [HF.out]
      have hb1 := hb.chg hc1 (fun h => h)
      have hbf1 := hbf.chg hc1 (fun h => h)
      have kf0 : w1.cell? ⟨w.heap.size, 0, none⟩ = some (.int .i64 p) := by rw [hbf1.cell]; rfl
      have kf1 : w1.cell? ⟨w.heap.size, 1, none⟩ = some (.int .i64 (n : Int)) := by rw [hbf1.cell]; rfl
      have kld := ldM_of hb1 Hms.out
      go_wp2_with fail
      refine (may_calls p n m _ Hmo.out (by omega) (by omega)).mono ?_
      rintro e w2 ⟨rfl, hc2⟩
      rw [HM.out]
      go_wp2_with fail
      go_ret
      exact ⟨ret_int Hck.out.symm, (hch.trans hc1).trans hc2⟩
  · have HF := Lib.hid (show Mt.mayF ⟨p, wd⟩ = false by simpa using hF)
    have Hno := Lib.hid (chk_no (m := m) (fun h => hF (ok_iff.1 h).1))
    clear hF
    go_enter Tryd.func13, Tryd.ntmps13
    go_wp2_with fail
    refine (mayframe_calls p wd _).mono ?_
    rintro e w1 ⟨rfl, hc1⟩
    rw [HF.out]
    go_wp2_with fail
    go_ret
    exact ⟨ret_int Hno.out.symm, hch.trans hc1⟩
end Go.Proofs.YtlhdbkbgedlmnaaDoor
