/-
  Layer 6: sums.Fits, the program's Check of a record.
-/
import Derived.Test.YtlhdbkbgedlmnaaDoorMchk2
namespace Go.Proofs.YtlhdbkbgedlmnaaDoor
open Go.RowKit
set_option linter.unusedVariables false
attribute [local go_sem ↓] loadDig_eq ldM_eq

set_option maxHeartbeats 1000000 in
set_option maxRecDepth 100000 in
theorem fits_calls (n : Nat) (d : List UInt8) (w : World) (h1 : 1 ≤ n) (h2 : n ≤ 32) (hd : d.length = 32) :
    Calls Tryd.prog 24 #[.int .i64 n, .agg (bys d).toArray] w fun e w' => e = .returned (.bool (Mt.tailZ n d)) ∧ Chg (fun _ => False) w w' := by
  have Hd := Lib.hid hd
  have b0 := Blk.new w 27 (bys d).toArray
  have hsz : (bys d).toArray.size = 32 := by simp [bys, hd]
  have ld0 := loadDig_of b0 hsz
  have hcl := cutd_length n d hd h2
  have hcmp := fun w => eql_digest (cutd n d) d hcl hd w
  rw [cutd_iff n d hd h2] at hcmp
  have hgd := guard_digest
  have hsz2 : (bys (cutd n d)).toArray.size = 32 := by simp [bys, hcl]
  have hone2 := dig_one (cutd n d)
  obtain ⟨cs, hcs⟩ : ∃ cs, cs = (bys (cutd n d)).toArray := ⟨_, rfl⟩
  have hcc := fun w => cut_calls n d w h1 h2 hd
  rw [← hcs] at hcmp hsz2 hone2 hcc
  have Hsz2 := Lib.hid hsz2
  have Hsz := Lib.hid hsz
  have Hcc := Lib.hid hcc
  clear hd hsz hcl hcs hsz2 hcc
  go_enter Tryd.func24, Tryd.ntmps24
  go_wp2_with fail
  refine (Hcc.out _).mono ?_
  rintro e w1 ⟨rfl, hc1⟩
  have hch := ((Chg.refl (fun _ => False) w).alloc (.cells (bys d).toArray 27)).trans hc1
  have b1 := b0.chg hc1 (fun h => h)
  have hz1 : w.heap.size < w1.heap.size := b1.lt
  have q1 : Blk (w1.alloc (.cells (dgc [] 0) 27)) w1.heap.size 27 (dgc [] 0) := Blk.new w1 _ (dgc [] 0)
  have q2 := q1.setRow cs
  have q0 := (b1.alloc (.cells (dgc [] 0) 27)).setRow_far (g' := w1.heap.size) (by omega) cs
  have l0 : (loadDig (.pointer (some ⟨w.heap.size, 0, none⟩))).run Tryd.prog ((w1.alloc (.cells #[.int .u8 0, .int .u8 0, .int .u8 0, .int .u8 0, .int .u8 0, .int .u8 0, .int .u8 0, .int .u8 0, .int .u8 0, .int .u8 0, .int .u8 0, .int .u8 0, .int .u8 0, .int .u8 0, .int .u8 0, .int .u8 0, .int .u8 0, .int .u8 0, .int .u8 0, .int .u8 0, .int .u8 0, .int .u8 0, .int .u8 0, .int .u8 0, .int .u8 0, .int .u8 0, .int .u8 0, .int .u8 0, .int .u8 0, .int .u8 0, .int .u8 0, .int .u8 0] 27)).setRow w1.heap.size cs) = .ok (.agg (bys d).toArray) ((w1.alloc (.cells #[.int .u8 0, .int .u8 0, .int .u8 0, .int .u8 0, .int .u8 0, .int .u8 0, .int .u8 0, .int .u8 0, .int .u8 0, .int .u8 0, .int .u8 0, .int .u8 0, .int .u8 0, .int .u8 0, .int .u8 0, .int .u8 0, .int .u8 0, .int .u8 0, .int .u8 0, .int .u8 0, .int .u8 0, .int .u8 0, .int .u8 0, .int .u8 0, .int .u8 0, .int .u8 0, .int .u8 0, .int .u8 0, .int .u8 0, .int .u8 0, .int .u8 0, .int .u8 0] 27)).setRow w1.heap.size cs) := loadDig_of q0 Hsz.out
  have l1 : (loadDig (.pointer (some ⟨w1.heap.size, 0, none⟩))).run Tryd.prog ((w1.alloc (.cells #[.int .u8 0, .int .u8 0, .int .u8 0, .int .u8 0, .int .u8 0, .int .u8 0, .int .u8 0, .int .u8 0, .int .u8 0, .int .u8 0, .int .u8 0, .int .u8 0, .int .u8 0, .int .u8 0, .int .u8 0, .int .u8 0, .int .u8 0, .int .u8 0, .int .u8 0, .int .u8 0, .int .u8 0, .int .u8 0, .int .u8 0, .int .u8 0, .int .u8 0, .int .u8 0, .int .u8 0, .int .u8 0, .int .u8 0, .int .u8 0, .int .u8 0, .int .u8 0] 27)).setRow w1.heap.size cs) = .ok (.agg cs) ((w1.alloc (.cells #[.int .u8 0, .int .u8 0, .int .u8 0, .int .u8 0, .int .u8 0, .int .u8 0, .int .u8 0, .int .u8 0, .int .u8 0, .int .u8 0, .int .u8 0, .int .u8 0, .int .u8 0, .int .u8 0, .int .u8 0, .int .u8 0, .int .u8 0, .int .u8 0, .int .u8 0, .int .u8 0, .int .u8 0, .int .u8 0, .int .u8 0, .int .u8 0, .int .u8 0, .int .u8 0, .int .u8 0, .int .u8 0, .int .u8 0, .int .u8 0, .int .u8 0, .int .u8 0] 27)).setRow w1.heap.size cs) := loadDig_of q2 Hsz2.out
  have hcq := (hch.alloc (.cells (dgc [] 0) 27)).setRow (g := w1.heap.size) (.inr (by omega)) cs
  clear ld0 b0
  go_wp2_with (refine wpList_store_row rfl 27 (.tmp 5) (.tmp 11) rfl w1.heap.size cs rfl rfl 27 (dgc [] 0) q1 (by rw [Hsz2.out]; exact info_digest) (by rw [Hsz2.out]; rfl) hone2 ?_)
  go_ret
  exact ⟨rfl, hcq⟩

theorem ok_iff {f : Mt.F} {m : Mt.M} : Mt.ok f m = true ↔ Mt.mayF f = true ∧ Mt.numsB m = true ∧ Mt.place m.page m.pages = true ∧ Mt.place m.list m.pages = true ∧ Mt.rootB m = true ∧ Mt.tailZ f.width m.sum = true := by
  unfold Mt.ok Mt.mayM
  simp only [Bool.and_eq_true]
  constructor
  · rintro ⟨a, ⟨⟨⟨b, c⟩, d⟩, e⟩, g⟩; exact ⟨a, b, c, d, e, g⟩
  · rintro ⟨a, b, c, d, e, g⟩; exact ⟨a, ⟨⟨⟨⟨b, c⟩, d⟩, e⟩, g⟩⟩
theorem zeroB (a : Nat) : (a = 0 ∧ ((a : Int) == 0) = true) ∨ (a ≠ 0 ∧ ((a : Int) == 0) = false) := by
  rcases Nat.eq_zero_or_pos a with h | h
  · exact .inl ⟨h, by rw [beq_iff_eq]; omega⟩
  · exact .inr ⟨by omega, by rw [beq_eq_false_iff_ne]; omega⟩
/-- Check's answer -/
def chk (f : Mt.F) (m : Mt.M) : Int := if Mt.ok f m = true then 0 else 2
theorem chk_no {f : Mt.F} {m : Mt.M} (h : ¬ (Mt.ok f m = true)) : chk f m = 2 := by unfold chk; rw [if_neg h]
theorem chk_yes {f : Mt.F} {m : Mt.M} (h : Mt.ok f m = true) : chk f m = 0 := by unfold chk; rw [if_pos h]

set_option maxHeartbeats 4000000 in
set_option maxRecDepth 100000 in
theorem check_calls (f : Mt.F) (m : Mt.M) (w : World) (hm : m.Ok) :
    Calls Tryd.prog 12 #[FV f, .agg (mcells m)] w fun e w' => e = .returned (.int .i64 (chk f m)) ∧ Chg (fun _ => False) w w' := by
  obtain ⟨p, wd⟩ := f
  have hms := hm.sum
  have Hms := Lib.hid hms
  obtain ⟨x1, x2, -, x4, x5, x6, x7⟩ := hm
  clear hms
  by_cases hF : Mt.mayF ⟨p, wd⟩ = true
  · have hF' := Mt.mayF_iff.1 hF
    obtain ⟨-, hw1, hw2⟩ := hF'
    dsimp only at hw1 hw2
    obtain ⟨n, hn⟩ : ∃ n : Nat, n = wd.toNat := ⟨_, rfl⟩
    obtain rfl : wd = (n : Int) := by omega
    have HF := Lib.hid hF
    clear hF hn
    go_enter Tryd.func12, Tryd.ntmps12
    go_wp2_with fail
    refine (right_calls p n _).mono ?_
    rintro e w1 ⟨rfl, hc1⟩
    rw [HF.out]
    have hz1 : w.heap.size + 1 < w1.heap.size := by have := hc1.size; simp at this; omega
    have hb : Blk w1 (w.heap.size + 1) 31 (mcells m) := by
      have := (Blk.new (w.alloc (.cells #[.int .i64 p, .int .i64 (n : Int)] 23)) 31 (mcells m)).chg hc1 (fun h => h)
      have e : (w.alloc (.cells #[.int .i64 p, .int .i64 (n : Int)] 23)).heap.size = w.heap.size + 1 := by simp
      rwa [e] at this
    have hbf : Blk w1 w.heap.size 23 #[.int .i64 p, .int .i64 (n : Int)] := ((Blk.new w 23 _).alloc _).chg hc1 (fun h => h)
    have hch := (((Chg.refl (fun _ => False) w).alloc _).alloc _).trans hc1
    have hcs := MCells.of_blk hb Hms.out
    have k0 : w1.cell? ⟨w.heap.size + 1, 0, none⟩ = some (.int .u64 m.ver) := hcs.c0
    have k1 : w1.cell? ⟨w.heap.size + 1, 1, none⟩ = some (.int .u32 m.page) := hcs.c1
    have k34 : w1.cell? ⟨w.heap.size + 1, 34, none⟩ = some (.int .u64 m.cnt) := hcs.c34
    have k35 : w1.cell? ⟨w.heap.size + 1, 35, none⟩ = some (.int .u64 m.rver) := hcs.c35
    have k36 : w1.cell? ⟨w.heap.size + 1, 36, none⟩ = some (.int .u32 m.list) := hcs.c36
    have k37 : w1.cell? ⟨w.heap.size + 1, 37, none⟩ = some (.int .u32 m.pages) := hcs.c37
    have kf1 : w1.cell? ⟨w.heap.size, 1, none⟩ = some (.int .i64 (n : Int)) := by rw [hbf.cell]; rfl
    have kd : (loadDig (.pointer (some ⟨w.heap.size + 1, 2, none⟩))).run Tryd.prog w1 = .ok (.agg (bys m.sum).toArray) w1 := by
      refine ldAgg_of Tryd.underlying27 rfl (by rw [show (bys m.sum).toArray.size = 32 by simp [bys, Hms.out]]; exact info_digest) (fun j v hv => ?_)
      rw [List.getElem?_toArray] at hv
      unfold bys at hv
      rw [List.getElem?_map, Option.map_eq_some_iff] at hv
      obtain ⟨b, hb1, rfl⟩ := hv
      have := hcs.sum j b hb1
      rwa [Nat.zero_add] at this
    have hfin : ∀ (b : Bool), Mt.tailZ (n : Int) m.sum = b → True := fun _ _ => trivial
    clear hcs hb hbf hc1 hfin
    have HP := Lib.hid (fun a => placeP_calls a m.pages (w.heap.size + 1) w1 k37)
    go_wp2_with (go_at_call 22; refine (HP.out _).mono ?_; rintro e w' ⟨rfl, rfl⟩)
    all_goals
      first
        | (go_ret
           refine ⟨ret_int (chk_no (fun h => ?_)).symm, hch⟩
           clear k0 k1 k34 k35 k36 k37 kf1 kd HP hch HF
           obtain ⟨-, h2, h3, h4, h5, -⟩ := ok_iff.1 h
           have g2 := Mt.numsB_iff.1 h2
           have g5 := Mt.rootB_iff.1 h5
           first | contradiction | omega | (rcases zeroB m.cnt with ⟨c1, d1⟩ | ⟨c1, d1⟩ <;> rcases zeroB m.page with ⟨c2, d2⟩ | ⟨c2, d2⟩ <;> rcases zeroB m.rver with ⟨c3, d3⟩ | ⟨c3, d3⟩ <;> rcases zeroB m.list with ⟨c4, d4⟩ | ⟨c4, d4⟩ <;> first | omega | (simp only [d1, d2, d3, bne, d4] at *; first | omega | contradiction | (simp_all; done) | (simp_all; omega))))
        | (exfalso
           clear k0 k1 k34 k35 k36 k37 kf1 kd HP hch HF
           simp_all
           done)
        | (refine (fits_calls n m.sum _ (by omega) (by omega) Hms.out).mono ?_
           rintro e w2 ⟨rfl, hc2⟩
           cases ht : Mt.tailZ n m.sum
           · have Hno := Lib.hid (chk_no (f := ⟨p, (n : Int)⟩) (m := m) (fun h => by have := (ok_iff.1 h).2.2.2.2.2; rw [ht] at this; cases this))
             clear ht
             go_wp2_with fail
             go_ret
             exact ⟨ret_int Hno.out.symm, hch.trans hc2⟩
           · have hroot : Mt.rootB m = true := by
               rw [Mt.rootB_iff]
               clear k0 k1 k34 k35 k36 k37 kf1 kd HP hch HF
               first | omega | (rcases zeroB m.cnt with ⟨c1, d1⟩ | ⟨c1, d1⟩ <;> rcases zeroB m.page with ⟨c2, d2⟩ | ⟨c2, d2⟩ <;> rcases zeroB m.rver with ⟨c3, d3⟩ | ⟨c3, d3⟩ <;> rcases zeroB m.list with ⟨c4, d4⟩ | ⟨c4, d4⟩ <;> first | omega | (simp only [d1, d2, d3, bne, d4] at *; first | omega | contradiction | (simp_all; done) | (simp_all; omega)))
             have Hyes := Lib.hid (chk_yes (ok_iff.2 ⟨HF.out, Mt.numsB_iff.2 (by omega), by assumption, by assumption, hroot, ht⟩))
             clear ht hroot
             go_wp2_with fail
             go_ret
             exact ⟨ret_int Hyes.out.symm, hch.trans hc2⟩)
  · have HF := Lib.hid (show Mt.mayF ⟨p, wd⟩ = false by simpa using hF)
    have Hno := Lib.hid (chk_no (m := m) (fun h => hF (ok_iff.1 h).1))
    clear hF
    go_enter Tryd.func12, Tryd.ntmps12
    go_wp2_with fail
    refine (right_calls p wd _).mono ?_
    rintro e w1 ⟨rfl, hc1⟩
    rw [HF.out]
    have hch := (((Chg.refl (fun _ => False) w).alloc _).alloc _).trans hc1
    clear hc1
    go_wp2_with fail
    go_ret
    exact ⟨ret_int Hno.out.symm, hch⟩
end Go.Proofs.YtlhdbkbgedlmnaaDoor
