/-
  Layer 27: the laws' own message; awake.
-/
import Derived.Test.YthkfcfkkamffpaaGreatYq
import Derived.Test.YthkfcfkkamffpaaGreatYs
import Derived.Test.YthkfcfkkamffpaaGreatZe
import Derived.Deep.RegionHeld3
namespace Go.Proofs.YthkfcfkkamffpaaGreat
open Go.RowKit
set_option linter.unusedVariables false
set_option linter.unusedSimpArgs false
open Wm (M)
theorem plain_nm : Nm plainM := by
  have h := only_nm (k := 2) (i := 7) (by omega) (by omega)
  obtain ⟨⟨a1, a2⟩, a3, a4, a5, a6, a7, a8, a9, a10, a11, a12, a13, a14, a15, a16, a17, a18, a19⟩ := h
  exact ⟨⟨a1, a2⟩, a3, a4, a5, a6, a7, a8, a9, a10, a11, a12, a13, a14, a15, a16, a17, a18, a19⟩
theorem plain_cells : ((Tryz.zeroCells36.setIfInBounds 0 (.int .u8 2)).setIfInBounds 1 (.int .u32 7)).setIfInBounds 3 (.string ⟨#[97]⟩) = mcells plainM nolist := by
  rw [show (Value.int .u8 2) = .int .u8 ((2 : Nat) : Int) from rfl, show (Value.int .u32 7) = .int .u32 ((7 : Nat) : Int) from rfl, only_cells 2 7]
  exact set_key (Wm.only 2 7) nolist [97]
theorem plain_isl (w : World) : IsL w plainM nolist := by
  obtain ⟨a, b, c, d⟩ := only_isl w 2 7
  exact ⟨a, b, c, d⟩
theorem zero_isl (w : World) : IsL w zeroM nolist := only_isl w 0 0
theorem st_plain (w : World) : (stAgg 36 (.pointer (some ⟨w.heap.size, 0, none⟩)) (.agg (((Tryz.zeroCells36.setIfInBounds 0 (.int .u8 2)).setIfInBounds 1 (.int .u32 7)).setIfInBounds 3 (.string ⟨#[97]⟩)))).run Tryz.prog (w.alloc (.cells Tryz.zeroCells36 36)) =
    .ok () ((w.alloc (.cells Tryz.zeroCells36 36)).setRow w.heap.size (mcells plainM nolist)) := by
  rw [plain_cells]
  exact stM (Blk.new w 36 Tryz.zeroCells36) (by rw [zero_msg]; exact mc_len _ _ (only_dg 0 0)) plain_nm.hd slc_no
attribute [local go_sem ↓] ld_msg st_msg
set_option maxHeartbeats 2000000 in
set_option maxRecDepth 100000 in
theorem plain_calls (w : World) : Calls Tryz.prog 31 #[] w fun e w' => e = .returned (.agg (mcells plainM nolist)) ∧ Chg (fun _ => False) w w' := by
  have hst := st_plain w
  have hb : IsM ((w.alloc (.cells Tryz.zeroCells36 36)).setRow w.heap.size (mcells plainM nolist)) w.heap.size plainM nolist := Blk.setRow (Blk.new w 36 Tryz.zeroCells36) _
  have Hb := Lib.hid hb
  clear hb
  go_enter Tryz.func31, Tryz.ntmps31
  go_wp2_with fail
  refine bodyPost_ret (results_cell_row rfl _ _ w.heap.size 36 _ (0, 0) _ rfl Hb.out Tryz.underlying36 rfl (by rw [mc_len _ _ plain_nm.hd]; exact info_msg)) rfl ?_
  exact ⟨rfl, Chg.setRow ((Chg.refl _ w).alloc _) (.inr (Nat.le_refl _)) _⟩
theorem IsRd.chg {Q : Nat → Prop} {w w' : World} {g n : Nat} {a : List UInt8} (h : IsRd w g a n) (hc : Chg Q w w') (hq : ¬ Q g) : IsRd w' g a n := Blk.chg h hc hq
theorem st_any {w : World} {g : Nat} {cur cs : Array Value} (hb : Blk w g 36 cur) (hcur : cur.size = 84) (hcs : cs.size = 84) (hone : cs.all (·.oneCell') = true) : (stAgg 36 (.pointer (some ⟨g, 0, none⟩)) (.agg cs)).run Tryz.prog w = .ok () (w.setRow g cs) := by
  have := stAgg_of (P := Tryz.prog) (t := 36) (off := 0) (cs := cs) hb (by rw [hcs]; exact info_msg) (by rw [hcs, hcur]; omega) hone
  rw [List.drop_eq_nil_of_le (by rw [hcs]; simp [hcur])] at this
  simpa using this
/-- the empty message, as the program makes it -/
theorem zero_agg2 : Value.agg Tryz.zeroCells36 = .agg (mcells zeroM nolist) := zero_agg
set_option maxHeartbeats 8000000 in
set_option maxRecDepth 100000 in
theorem awake_calls (w : World) : Calls Tryz.prog 20 #[] w fun e w' => e = .returned (.bool true) ∧ Chg (fun _ => False) w w' := by
  have hE : ∀ W, Calls Tryz.prog 17 #[.agg (mcells plainM nolist)] W fun e w' => e = .returned (.tuple #[S plainS, .int .i64 0]) ∧ Chg (fun _ => False) W w' := fun W => (encode_calls plainM nolist W plain_nm (plain_isl W)).mono fun e w' h => by
    unfold EncE at h
    rw [plain_enc] at h
    exact h
  have hD : ∀ W, Calls Tryz.prog 22 #[S plainS] W fun e w' => ∃ L, e = .returned (.tuple #[.agg (mcells plainM L), .int .i64 0]) ∧ OwnL w' W.heap.size plainM L ∧ Chg (fun _ => False) W w' := fun W => (decode_calls plainS W (by rw [plain_len]; omega)).mono fun e w' h => by
    unfold DecE at h
    rw [plain_dec] at h
    exact h
  have hX : ∀ W, Calls Tryz.prog 22 #[S (plainS ++ [0])] W fun e w' => ∃ cs, e = .returned (.tuple #[.agg cs, .int .i64 271]) ∧ cs.size = 84 ∧ cs.all (·.oneCell') = true ∧ Chg (fun _ => False) W w' := fun W => (decode_calls (plainS ++ [0]) W (by rw [List.length_append, plain_len]; decide)).mono fun e w' ⟨L, h1, h2, h3⟩ => by
    rw [plain_more] at h1
    exact ⟨_, h1, mc_len _ _ (decW_nm _).hd, mcells_one _ _ h2.isl.slc, h3⟩
  have HE := Lib.hid hE
  have HD := Lib.hid hD
  have HX := Lib.hid hX
  have hpl : plainS.length = 15 := plain_len
  have hc1 : (⟨plainS.toArray⟩ : ByteArray) ++ (⟨#[0]⟩ : ByteArray) = ⟨(plainS ++ [0]).toArray⟩ := cat_S plainS [0]
  clear hE hD hX
  go_enter Tryz.func20, Tryz.ntmps20
  go_wp2_with fail
  refine (plain_calls w).mono ?_
  rintro e w1 ⟨rfl, hc⟩
  have Hc1 := Lib.hid hc
  clear hc
  go_wp2_with fail
  refine (HE.out w1).mono ?_
  rintro e w2 ⟨rfl, hc⟩
  have Hc2 := Lib.hid (Hc1.out.trans hc)
  clear hc
  go_wp2_with fail
  refine (HD.out w2).mono ?_
  rintro e w3 ⟨L, rfl, hol, hc⟩
  have hst := stM (Blk.new w3 36 Tryz.zeroCells36) (by rw [zero_msg]; exact mc_len _ _ (only_dg 0 0)) plain_nm.hd hol.isl.slc
  have hm : IsM ((w3.alloc (.cells Tryz.zeroCells36 36)).setRow w3.heap.size (mcells plainM L)) w3.heap.size plainM L := Blk.setRow (Blk.new w3 36 Tryz.zeroCells36) _
  have hcx : Chg (fun _ => False) w3 ((w3.alloc (.cells Tryz.zeroCells36 36)).setRow w3.heap.size (mcells plainM L)) := Chg.setRow ((Chg.refl _ w3).alloc _) (.inr (Nat.le_refl _)) _
  have Hol := Lib.hid (hol.chg hcx (fun _ h => h.elim))
  have Hm := Lib.hid hm
  have Hc3 := Lib.hid ((Hc2.out.trans hc).trans hcx)
  clear hol hm hc hcx
  go_upto_region 5 with fail
  generalize (w3.alloc (.cells Tryz.zeroCells36 36)).setRow w3.heap.size (mcells plainM L) = w4 at *
  clear hst
  go_wp2_with fail
  refine (HX.out w4).mono ?_
  rintro e w5 ⟨cs, rfl, hcs, hone, hc⟩
  have hst := st_any (Blk.new w5 36 Tryz.zeroCells36) (by rw [zero_msg]; exact mc_len _ _ (only_dg 0 0)) hcs hone
  have hcx : Chg (fun _ => False) w4 ((w5.alloc (.cells Tryz.zeroCells36 36)).setRow w5.heap.size cs) := hc.trans (Chg.setRow ((Chg.refl _ w5).alloc _) (.inr (Nat.le_refl _)) _)
  have Hcx := Lib.hid hcx
  clear hcs hone hc hcx
  go_upto_region 6 with fail
  generalize (w5.alloc (.cells Tryz.zeroCells36 36)).setRow w5.heap.size cs = w6 at *
  have hol6 := Hol.out.chg Hcx.out (fun _ h => h.elim)
  have Hlb := Lib.hid (fun (b : Nat) (hb : LB L b) => (hol6.lt hb).2)
  have Hs6 := Lib.hid ((Hc3.out.trans Hcx.out).size)
  clear hol6
  have Hm := Lib.hid (Hm.out.chg (Hcx.out.alloc (.cells #[S [], .int .i64 0] 54)) (fun h => h))
  have Hol := Lib.hid (Hol.out.chg (Hcx.out.alloc (.cells #[S [], .int .i64 0] 54)) (fun _ h => h.elim))
  have Hc6 := Lib.hid ((Hc3.out.trans Hcx.out).alloc (.cells #[S [], .int .i64 0] 54))
  have Hrd := Lib.hid (show IsRd (w6.alloc (.cells #[S [], .int .i64 0] 54)) w6.heap.size [] 0 from Blk.new w6 _ _)
  have ex3 : (⟨plainS.toArray⟩ : ByteArray).extract 0 3 = ⟨(plainS.take 3).toArray⟩ := by rw [extract_S]; simp
  have hc2 := cat_S plainS (plainS.take 3)
  have hlt3 : (plainS.take 3).length = 3 := by rw [List.length_take, hpl]; rfl
  have hP : ∀ (W : World) (g : Nat), IsRd W g [] 0 → Calls Tryz.prog 26 #[pt g, S (plainS ++ plainS.take 3)] W fun e w' => ∃ A c, e = .returned (.tuple #[.slice A 1 c, .int .i64 0]) ∧ IsRd w' g (plainS.take 3) 0 ∧ Chg (fun k => k = g) W w' := fun W g h => (push_calls g [] (plainS ++ plainS.take 3) 0 W h (by simp [hpl])).mono fun e w' ⟨v, X, h1, h2, h3, h4, h5, h6⟩ => by
    have hw : pushW [] 0 (plainS ++ plainS.take 3) = ([plainM], 0, plainS.take 3, 0) := by
      unfold pushW
      rw [if_neg (by omega), List.nil_append, plain_feed]
    rw [hw] at h1 h2 h5
    obtain ⟨ao, cp, rfl⟩ := own_form h3
    have hx : X.length = 1 := by have := congrArg List.length h2; simpa using this
    rw [hx] at h1
    exact ⟨ao, cp, h1, h5, h6⟩
  have HP := Lib.hid hP
  clear hP
  go_wp2_with fail
  refine (HP.out _ _ Hrd.out).mono ?_
  rintro e w7 ⟨A, cc, rfl, hrd, hc⟩
  have hne : w3.heap.size ≠ w6.heap.size := Blk.ne_ Hm.out Hrd.out (by decide)
  have hm := Hm.out.chg hc hne
  have hol := Hol.out.keep hc (fun b hb e => by have := Hlb.out b hb; omega)
  have hc7 := Hc6.out.andThen hc (fun k hk e => by have := Hs6.out; omega)
  have Hm := Lib.hid hm
  have Hol := Lib.hid hol.isl
  have Hrd := Lib.hid hrd
  have Hc := Lib.hid hc7
  clear hne hm hol hc7 hc hrd
  have ex11 : (⟨plainS.toArray⟩ : ByteArray).extract 0 11 = ⟨#[0, 0, 0, 11, 2, 0, 0, 0, 7, 1, 97]⟩ := by
    rw [extract_S, List.drop_zero, Nat.sub_zero, plain_take]
  have C0 := Lib.hid ((Chg.refl (fun _ => False) w7).drew)
  have LD := Lib.hid (fun (x : World) (hx : Chg (fun _ => False) w7 x) => ldM plain_nm.hd (Hm.out.chg hx (fun h => h)))
  have hck : ∀ x, Calls Tryz.prog 18 #[.agg Tryz.zeroCells36] x fun e w' => e = .returned (.int .i64 270) ∧ Chg (fun _ => False) x w' := fun x => by
    rw [zero_agg]
    refine (check_calls zeroM nolist x (only_nm (by omega) (by omega)) (zero_isl x)).mono fun e w' h => ?_
    rw [zero_enc] at h
    exact h
  have HK := Lib.hid hck
  clear hck ex3 hc2 hc1 HP HE HD HX
  go_upto_region 8 with fail
  go_region_held3 (fun w' => (ldAgg 36 (.pointer (some ⟨w3.heap.size, 0, none⟩))).run Tryz.prog w' = .ok (.agg (mcells plainM L)) w')
    (first | exact LD.out _ C0.out | exact LD.out _ C1.out | exact LD.out _ C2.out | exact LD.out _ C3.out)
    (first
      | (go_at_call 31; (with_reducible refine (plain_calls _).mono ?_); rintro e x1 ⟨rfl, q1⟩; have C1 := Lib.hid ((C0.out).trans q1))
      | (go_at_call 23; (with_reducible refine (rsame_yes plainM L nolist _ plain_nm (Hol.out.chg C1.out (LOff.no _)) (plain_isl _)).mono ?_); rintro e x2 ⟨rfl, q2⟩; have C2 := Lib.hid ((C1.out).trans q2))
      | (go_at_call 29; (with_reducible refine (held_calls _ (plainS.take 3) 0 _ (Hrd.out.chg C2.out (fun h => h))).mono ?_); rintro e x3 ⟨rfl, rfl⟩)
      | (go_at_call 18; (with_reducible refine (HK.out _).mono ?_); rintro e x4 ⟨rfl, q4⟩; have C3 := Lib.hid ((C2.out).trans q4)))
  all_goals
    go_wp2_with fail
    go_ret
    exact ⟨rfl, Hc.out.trans C3.out⟩
end Go.Proofs.YthkfcfkkamffpaaGreat
