/-
  Layer 27: the program's Frames.
-/
import Derived.Test.YthkfcfkkamffpaaGreatYq
import Derived.Test.YthkfcfkkamffpaaGreatYs
import Derived.Test.YthkfcfkkamffpaaGreatZe
import Derived.Deep.RegionHeld3
namespace Go.Proofs.YthkfcfkkamffpaaGreat
open Go.RowKit
set_option linter.unusedVariables false
set_option linter.unusedSimpArgs false
open Wm (M)
theorem plain_nm : Nm plainM := by
  have h := only_nm (k := 2) (i := 7) (by omega) (by omega)
  obtain ⟨⟨a1, a2⟩, a3, a4, a5, a6, a7, a8, a9, a10, a11, a12, a13, a14, a15, a16, a17, a18, a19⟩ := h
  exact ⟨⟨a1, a2⟩, a3, a4, a5, a6, a7, a8, a9, a10, a11, a12, a13, a14, a15, a16, a17, a18, a19⟩
theorem plain_cells : ((Tryz.zeroCells36.setIfInBounds 0 (.int .u8 2)).setIfInBounds 1 (.int .u32 7)).setIfInBounds 3 (.string ⟨#[97]⟩) = mcells plainM nolist := by
  rw [show (Value.int .u8 2) = .int .u8 ((2 : Nat) : Int) from rfl, show (Value.int .u32 7) = .int .u32 ((7 : Nat) : Int) from rfl, only_cells 2 7]
  exact set_key (Wm.only 2 7) nolist [97]
theorem plain_isl (w : World) : IsL w plainM nolist := by
  obtain ⟨a, b, c, d⟩ := only_isl w 2 7
  exact ⟨a, b, c, d⟩
theorem zero_isl (w : World) : IsL w zeroM nolist := only_isl w 0 0
theorem st_plain (w : World) : (stAgg 36 (.pointer (some ⟨w.heap.size, 0, none⟩)) (.agg (((Tryz.zeroCells36.setIfInBounds 0 (.int .u8 2)).setIfInBounds 1 (.int .u32 7)).setIfInBounds 3 (.string ⟨#[97]⟩)))).run Tryz.prog (w.alloc (.cells Tryz.zeroCells36 36)) =
    .ok () ((w.alloc (.cells Tryz.zeroCells36 36)).setRow w.heap.size (mcells plainM nolist)) := by
  rw [plain_cells]
  exact stM (Blk.new w 36 Tryz.zeroCells36) (by rw [zero_msg]; exact mc_len _ _ (only_dg 0 0)) plain_nm.hd slc_no
attribute [local go_sem ↓] ld_msg st_msg
set_option maxHeartbeats 2000000 in
set_option maxRecDepth 100000 in
theorem plain_calls (w : World) : Calls Tryz.prog 31 #[] w fun e w' => e = .returned (.agg (mcells plainM nolist)) ∧ Chg (fun _ => False) w w' := by
  have hst := st_plain w
  have hb : IsM ((w.alloc (.cells Tryz.zeroCells36 36)).setRow w.heap.size (mcells plainM nolist)) w.heap.size plainM nolist := Blk.setRow (Blk.new w 36 Tryz.zeroCells36) _
  have Hb := Lib.hid hb
  clear hb
  go_enter Tryz.func31, Tryz.ntmps31
  go_wp2_with fail
  refine bodyPost_ret (results_cell_row rfl _ _ w.heap.size 36 _ (0, 0) _ rfl Hb.out Tryz.underlying36 rfl (by rw [mc_len _ _ plain_nm.hd]; exact info_msg)) rfl ?_
  exact ⟨rfl, Chg.setRow ((Chg.refl _ w).alloc _) (.inr (Nat.le_refl _)) _⟩
theorem IsRd.chg {Q : Nat → Prop} {w w' : World} {g n : Nat} {a : List UInt8} (h : IsRd w g a n) (hc : Chg Q w w') (hq : ¬ Q g) : IsRd w' g a n := Blk.chg h hc hq
theorem st_any {w : World} {g : Nat} {cur cs : Array Value} (hb : Blk w g 36 cur) (hcur : cur.size = 84) (hcs : cs.size = 84) (hone : cs.all (·.oneCell') = true) : (stAgg 36 (.pointer (some ⟨g, 0, none⟩)) (.agg cs)).run Tryz.prog w = .ok () (w.setRow g cs) := by
  have := stAgg_of (P := Tryz.prog) (t := 36) (off := 0) (cs := cs) hb (by rw [hcs]; exact info_msg) (by rw [hcs, hcur]; omega) hone
  rw [List.drop_eq_nil_of_le (by rw [hcs]; simp [hcur])] at this
  simpa using this
/-- the empty message, as the program makes it -/
theorem zero_agg2 : Value.agg Tryz.zeroCells36 = .agg (mcells zeroM nolist) := zero_agg
set_option maxHeartbeats 8000000 in
set_option maxRecDepth 100000 in
theorem awake_calls (w : World) : Calls Tryz.prog 20 #[] w fun e w' => e = .returned (.bool true) ∧ Chg (fun _ => False) w w' := by
  have hE : ∀ W, Calls Tryz.prog 17 #[.agg (mcells plainM nolist)] W fun e w' => e = .returned (.tuple #[S plainS, .int .i64 0]) ∧ Chg (fun _ => False) W w' := fun W => (encode_calls plainM nolist W plain_nm (plain_isl W)).mono fun e w' h => by
    unfold EncE at h
    rw [plain_enc] at h
    exact h
  have hD : ∀ W, Calls Tryz.prog 22 #[S plainS] W fun e w' => ∃ L, e = .returned (.tuple #[.agg (mcells plainM L), .int .i64 0]) ∧ OwnL w' W.heap.size plainM L ∧ Chg (fun _ => False) W w' := fun W => (decode_calls plainS W (by rw [plain_len]; omega)).mono fun e w' h => by
    unfold DecE at h
    rw [plain_dec] at h
    exact h
  have hX : ∀ W, Calls Tryz.prog 22 #[S (plainS ++ [0])] W fun e w' => ∃ cs, e = .returned (.tuple #[.agg cs, .int .i64 271]) ∧ cs.size = 84 ∧ cs.all (·.oneCell') = true ∧ Chg (fun _ => False) W w' := fun W => (decode_calls (plainS ++ [0]) W (by rw [List.length_append, plain_len]; decide)).mono fun e w' ⟨L, h1, h2, h3⟩ => by
    rw [plain_more] at h1
    exact ⟨_, h1, mc_len _ _ (decW_nm _).hd, mcells_one _ _ h2.isl.slc, h3⟩
  have HE := Lib.hid hE
  have HD := Lib.hid hD
  have HX := Lib.hid hX
  have hpl : plainS.length = 15 := plain_len
  have hc1 : (⟨plainS.toArray⟩ : ByteArray) ++ (⟨#[0]⟩ : ByteArray) = ⟨(plainS ++ [0]).toArray⟩ := cat_S plainS [0]
  clear hE hD hX
  go_enter Tryz.func20, Tryz.ntmps20
  go_wp2_with fail
  refine (plain_calls w).mono ?_
  rintro e w1 ⟨rfl, hc⟩
  have Hc1 := Lib.hid hc
  clear hc
  go_wp2_with fail
  refine (HE.out w1).mono ?_
  rintro e w2 ⟨rfl, hc⟩
  have Hc2 := Lib.hid (Hc1.out.trans hc)
  clear hc
  go_wp2_with fail
  refine (HD.out w2).mono ?_
  rintro e w3 ⟨L, rfl, hol, hc⟩
  have hst := stM (Blk.new w3 36 Tryz.zeroCells36) (by rw [zero_msg]; exact mc_len _ _ (only_dg 0 0)) plain_nm.hd hol.isl.slc
  have hm : IsM ((w3.alloc (.cells Tryz.zeroCells36 36)).setRow w3.heap.size (mcells plainM L)) w3.heap.size plainM L := Blk.setRow (Blk.new w3 36 Tryz.zeroCells36) _
  have hcx : Chg (fun _ => False) w3 ((w3.alloc (.cells Tryz.zeroCells36 36)).setRow w3.heap.size (mcells plainM L)) := Chg.setRow ((Chg.refl _ w3).alloc _) (.inr (Nat.le_refl _)) _
  have Hol := Lib.hid (hol.chg hcx (fun _ h => h.elim))
  have Hm := Lib.hid hm
  have Hc3 := Lib.hid ((Hc2.out.trans hc).trans hcx)
  clear hol hm hc hcx
  go_upto_region 5 with fail
  generalize (w3.alloc (.cells Tryz.zeroCells36 36)).setRow w3.heap.size (mcells plainM L) = w4 at *
  clear hst
  go_wp2_with fail
  refine (HX.out w4).mono ?_
  rintro e w5 ⟨cs, rfl, hcs, hone, hc⟩
  have hst := st_any (Blk.new w5 36 Tryz.zeroCells36) (by rw [zero_msg]; exact mc_len _ _ (only_dg 0 0)) hcs hone
  have hcx : Chg (fun _ => False) w4 ((w5.alloc (.cells Tryz.zeroCells36 36)).setRow w5.heap.size cs) := hc.trans (Chg.setRow ((Chg.refl _ w5).alloc _) (.inr (Nat.le_refl _)) _)
  have Hcx := Lib.hid hcx
  clear hcs hone hc hcx
  go_upto_region 6 with fail
  generalize (w5.alloc (.cells Tryz.zeroCells36 36)).setRow w5.heap.size cs = w6 at *
  have hol6 := Hol.out.chg Hcx.out (fun _ h => h.elim)
  have Hlb := Lib.hid (fun (b : Nat) (hb : LB L b) => (hol6.lt hb).2)
  have Hs6 := Lib.hid ((Hc3.out.trans Hcx.out).size)
  clear hol6
  have Hm := Lib.hid (Hm.out.chg (Hcx.out.alloc (.cells #[S [], .int .i64 0] 54)) (fun h => h))
  have Hol := Lib.hid (Hol.out.chg (Hcx.out.alloc (.cells #[S [], .int .i64 0] 54)) (fun _ h => h.elim))
  have Hc6 := Lib.hid ((Hc3.out.trans Hcx.out).alloc (.cells #[S [], .int .i64 0] 54))
  have Hrd := Lib.hid (show IsRd (w6.alloc (.cells #[S [], .int .i64 0] 54)) w6.heap.size [] 0 from Blk.new w6 _ _)
  have ex3 : (⟨plainS.toArray⟩ : ByteArray).extract 0 3 = ⟨(plainS.take 3).toArray⟩ := by rw [extract_S]; simp
  have hc2 := cat_S plainS (plainS.take 3)
  have hlt3 : (plainS.take 3).length = 3 := by rw [List.length_take, hpl]; rfl
  have hP : ∀ (W : World) (g : Nat), IsRd W g [] 0 → Calls Tryz.prog 26 #[pt g, S (plainS ++ plainS.take 3)] W fun e w' => ∃ A c, e = .returned (.tuple #[.slice A 1 c, .int .i64 0]) ∧ IsRd w' g (plainS.take 3) 0 ∧ Chg (fun k => k = g) W w' := fun W g h => (push_calls g [] (plainS ++ plainS.take 3) 0 W h (by simp [hpl])).mono fun e w' ⟨v, X, h1, h2, h3, h4, h5, h6⟩ => by
    have hw : pushW [] 0 (plainS ++ plainS.take 3) = ([plainM], 0, plainS.take 3, 0) := by
      unfold pushW
      rw [if_neg (by omega), List.nil_append, plain_feed]
    rw [hw] at h1 h2 h5
    obtain ⟨ao, cp, rfl⟩ := own_form h3
    have hx : X.length = 1 := by have := congrArg List.length h2; simpa using this
    rw [hx] at h1
    exact ⟨ao, cp, h1, h5, h6⟩
  have HP := Lib.hid hP
  clear hP
  go_wp2_with fail
  refine (HP.out _ _ Hrd.out).mono ?_
  rintro e w7 ⟨A, cc, rfl, hrd, hc⟩
  have hne : w3.heap.size ≠ w6.heap.size := Blk.ne_ Hm.out Hrd.out (by decide)
  have hm := Hm.out.chg hc hne
  have hol := Hol.out.keep hc (fun b hb e => by have := Hlb.out b hb; omega)
  have hc7 := Hc6.out.andThen hc (fun k hk e => by have := Hs6.out; omega)
  have Hm := Lib.hid hm
  have Hol := Lib.hid hol.isl
  have Hrd := Lib.hid hrd
  have Hc := Lib.hid hc7
  clear hne hm hol hc7 hc hrd
  have ex11 : (⟨plainS.toArray⟩ : ByteArray).extract 0 11 = ⟨#[0, 0, 0, 11, 2, 0, 0, 0, 7, 1, 97]⟩ := by
    rw [extract_S, List.drop_zero, Nat.sub_zero, plain_take]
  have C0 := Lib.hid ((Chg.refl (fun _ => False) w7).drew)
  have LD := Lib.hid (fun (x : World) (hx : Chg (fun _ => False) w7 x) => ldM plain_nm.hd (Hm.out.chg hx (fun h => h)))
  have hck : ∀ x, Calls Tryz.prog 18 #[.agg Tryz.zeroCells36] x fun e w' => e = .returned (.int .i64 270) ∧ Chg (fun _ => False) x w' := fun x => by
    rw [zero_agg]
    refine (check_calls zeroM nolist x (only_nm (by omega) (by omega)) (zero_isl x)).mono fun e w' h => ?_
    rw [zero_enc] at h
    exact h
  have HK := Lib.hid hck
  clear hck ex3 hc2 hc1 HP HE HD HX
  go_upto_region 8 with fail
  go_region_held3 (fun w' => (ldAgg 36 (.pointer (some ⟨w3.heap.size, 0, none⟩))).run Tryz.prog w' = .ok (.agg (mcells plainM L)) w')
    (first | exact LD.out _ C0.out | exact LD.out _ C1.out | exact LD.out _ C2.out | exact LD.out _ C3.out)
    (first
      | (go_at_call 31; (with_reducible refine (plain_calls _).mono ?_); rintro e x1 ⟨rfl, q1⟩; have C1 := Lib.hid ((C0.out).trans q1))
      | (go_at_call 23; (with_reducible refine (rsame_yes plainM L nolist _ plain_nm (Hol.out.chg C1.out (LOff.no _)) (plain_isl _)).mono ?_); rintro e x2 ⟨rfl, q2⟩; have C2 := Lib.hid ((C1.out).trans q2))
      | (go_at_call 29; (with_reducible refine (held_calls _ (plainS.take 3) 0 _ (Hrd.out.chg C2.out (fun h => h))).mono ?_); rintro e x3 ⟨rfl, rfl⟩)
      | (go_at_call 18; (with_reducible refine (HK.out _).mono ?_); rintro e x4 ⟨rfl, q4⟩; have C3 := Lib.hid ((C2.out).trans q4)))
  all_goals
    go_wp2_with fail
    go_ret
    exact ⟨rfl, Hc.out.trans C3.out⟩
end Go.Proofs.YthkfcfkkamffpaaGreat
namespace Go.Proofs.YthkfcfkkamffpaaGreat
open Go.RowKit
set_option linter.unusedVariables false
set_option linter.unusedSimpArgs false
open Wm (M)
/-- what Frames answers -/
def framesW : List M → List UInt8 × Nat
  | [] => ([], 0)
  | m :: r => if (encW m).2 ≠ 0 then ([], (encW m).2) else if (framesW r).2 ≠ 0 then ([], (framesW r).2) else ((encW m).1 ++ (framesW r).1, 0)
theorem frames_ok : ∀ l : List M, (∀ m ∈ l, (encW m).2 = 0) → framesW l = (l.flatMap fun m => (encW m).1, 0)
  | [], _ => rfl
  | m :: r, h => by
    have h1 := frames_ok r (fun x hx => h x (by simp [hx]))
    unfold framesW
    rw [if_neg (by simp [h m (by simp)]), h1, if_neg (by simp)]
    rfl
theorem frames_bad : ∀ (l : List M) (k : Nat) (m : M), l[k]? = some m → (∀ x ∈ l.take k, (encW x).2 = 0) → (encW m).2 ≠ 0 → framesW l = ([], (encW m).2)
  | [], _, _, h, _, _ => by simp at h
  | x :: r, 0, m, h, _, hb => by
    simp at h
    subst h
    unfold framesW
    rw [if_pos hb]
  | x :: r, k + 1, m, h, ha, hb => by
    have h1 := frames_bad r k m (by simpa using h) (fun y hy => ha y (by simp [hy])) hb
    unfold framesW
    rw [if_neg (by simp [ha x (by simp)]), h1, if_pos hb]
theorem encs_len : ∀ l : List M, (∀ m ∈ l, (encW m).2 = 0) → (l.flatMap fun m => (encW m).1).length ≤ l.length * 1048576
  | [], _ => by simp
  | m :: r, h => by
    have h1 := encs_len r (fun x hx => h x (by simp [hx]))
    have h2 := (enc_len (m := m) (s := (encW m).1) (by rw [← h m (by simp)])).2
    rw [List.flatMap_cons, List.length_append, List.length_cons, Nat.succ_mul]
    omega
theorem ldM_at {w : World} {b off : Nat} {m : M} {L : Ls} (hd : Dg m) (h : ∀ j u, (mc m L)[j]? = some u → w.cell? ⟨b, off + j, none⟩ = some u) : (ldAgg 36 (.pointer (some ⟨b, off, none⟩))).run Tryz.prog w = .ok (.agg (mcells m L)) w :=
  ldAgg_of Tryz.underlying36 rfl (by rw [mc_len m L hd]; exact info_msg) (fun j v hv => h j v (by simpa [mcells] using hv))
attribute [local go_sem ↓] ld_msg st_msg
set_option maxHeartbeats 8000000 in
set_option maxRecDepth 100000 in
theorem frames_calls (X : List (M × Ls)) (v : Value) (w : World) (hr : LR w 84 v X.length (X.flatMap fun x => mc x.1 x.2)) (hx : ∀ x ∈ X, Nm x.1 ∧ IsL w x.1 x.2) (hn : X.length ≤ 1048576) :
    Calls Tryz.prog 33 #[v] w fun e w' => e = .returned (.tuple #[S (framesW (X.map Prod.fst)).1, .int .i64 ((framesW (X.map Prod.fst)).2 : Nat)]) ∧ Chg (fun _ => False) w w' := by
  obtain ⟨A, cc, rfl, hrl⟩ := hr
  have Hr := Lib.hid hrl
  have Hx := Lib.hid hx
  have Hn := Lib.hid hn
  have Hal := Lib.hid (fun h1 => frames_ok (X.map Prod.fst) h1)
  have Hbad := Lib.hid (frames_bad (X.map Prod.fst))
  have Hlen := Lib.hid (fun (k : Nat) (h : ∀ m ∈ (X.take k).map Prod.fst, (encW m).2 = 0) => encs_len _ h)
  generalize framesW (X.map Prod.fst) = R at *
  clear hrl hx
  go_enter Tryz.func33, Tryz.ntmps33
  go_wp2_with fail
  refine (new_calls w).mono ?_
  rintro e w1 ⟨rfl, hw1, hb1, _⟩
  have hmi : Mine w w1 w.heap.size (.slice none 0 0) [] := ⟨hw1, Chg.of_below hb1 _, Nat.le_refl _, by rintro k ⟨⟩⟩
  have Hmi := Lib.hid hmi
  clear hw1 hb1 hmi
  go_wp2_with fail
  go_loopw [12] (fun iv wr => ∃ (k : Nat) (vv : Value), k ≤ X.length ∧ iv = .int .i64 k ∧ Mine w wr w.heap.size vv (((X.take k).map Prod.fst).flatMap fun m => (encW m).1) ∧ ∀ m ∈ (X.take k).map Prod.fst, (encW m).2 = 0) (fun iv _ => X.length - (intOf iv).toNat)
  case atStart => exact ⟨0, _, by omega, rfl, by simpa using Hmi.out, fun m hm => by simp at hm⟩
  case round =>
    obtain ⟨k, vv, hk, rfl, hmk, hok⟩ := hrel
    by_cases hp : k < X.length
    case pos =>
      obtain ⟨⟨m, L⟩, hxk⟩ : ∃ x, X[k]? = some x := ⟨_, List.getElem?_eq_getElem hp⟩
      obtain ⟨hnm, hil⟩ := Hx.out _ (List.mem_of_getElem? hxk)
      have hmap : (X.map Prod.fst)[k]? = some m := by rw [List.getElem?_map, hxk]; rfl
      obtain ⟨b, off, rfl, hcell⟩ := RL.at_ (size := 84) (f := fun x : M × Ls => mc x.1 x.2) (fun x hm => by have := mc_len x.1 x.2 (Hx.out x hm).1.hd; simpa [mcells] using this) (Hr.out.chg hmk.chg (fun _ _ _ _ h => h)) hxk
      have hld := ldM_at hnm.hd hcell
      have hst := stM (Blk.new wr 36 Tryz.zeroCells36) (by rw [zero_msg]; exact mc_len _ _ (only_dg 0 0)) hnm.hd hil.slc
      have hbm : IsM ((wr.alloc (.cells Tryz.zeroCells36 36)).setRow wr.heap.size (mcells m L)) wr.heap.size m L := Blk.setRow (Blk.new wr 36 Tryz.zeroCells36) _
      have hcx : Chg (fun _ => False) wr ((wr.alloc (.cells Tryz.zeroCells36 36)).setRow wr.heap.size (mcells m L)) := Chg.setRow ((Chg.refl _ wr).alloc _) (.inr (Nat.le_refl _)) _
      have HE := encode_calls m L _ hnm (hil.chg (hmk.chg.trans hcx) (LOff.no _))
      unfold EncE at HE
      have HE := Lib.hid HE
      have Hm := Lib.hid hbm
      have Hmk := Lib.hid (hmk.below hcx)
      have Hnm := Lib.hid hnm
      have Hok := Lib.hid hok
      have Hxk := Lib.hid hxk
      have Hmap := Lib.hid hmap
      clear hnm hil hcell hbm hcx hmk hok hxk hmap
      go_upto_region 5 with fail
      generalize (wr.alloc (.cells Tryz.zeroCells36 36)).setRow wr.heap.size (mcells m L) = ws at *
      clear hld hst
      have hld2 := ldM Hnm.out.hd Hm.out
      have hlen1 : (encW m).2 = 0 → (encW m).1.length ≤ 1048576 := fun h => (enc_len (m := m) (s := (encW m).1) (by rw [← h])).2
      have hbad : (encW m).2 ≠ 0 → R = ([], (encW m).2) := fun h => Hbad.out k m Hmap.out (by rw [← List.map_take]; exact Hok.out) h
      have hstep : ((X.take (k + 1)).map Prod.fst).flatMap (fun m => (encW m).1) = (((X.take k).map Prod.fst).flatMap fun m => (encW m).1) ++ [(encW m).1].flatten := by
        rw [List.take_add_one, Hxk.out]
        simp
      have hok2 : (encW m).2 = 0 → ∀ x ∈ (X.take (k + 1)).map Prod.fst, (encW x).2 = 0 := fun h x hx => by
        rw [List.take_add_one, Hxk.out] at hx
        simp only [Option.toList_some, List.map_append, List.map_cons, List.map_nil, List.mem_append, List.mem_singleton] at hx
        rcases hx with hx | hx
        · exact Hok.out x hx
        · subst hx; exact h
      have hroom := Hlen.out k Hok.out
      have Hbad2 := Lib.hid hbad
      have Hstep := Lib.hid hstep
      have Hok2 := Lib.hid hok2
      have Hlen1 := Lib.hid hlen1
      have Hroom := Lib.hid hroom
      clear hbad hstep hok2 hlen1 hroom
      obtain ⟨c, hc⟩ : ∃ c, (encW m).2 = c := ⟨_, rfl⟩
      obtain ⟨t, ht⟩ : ∃ t, (encW m).1 = t := ⟨_, rfl⟩
      rw [hc, ht] at HE
      rw [hc] at Hbad2 Hok2 Hlen1
      rw [ht] at Hstep Hlen1
      clear hc ht
      go_wp2_with fail
      refine HE.out.mono ?_
      rintro e wt ⟨rfl, hct⟩
      have Hmt := Lib.hid (Hmk.out.below hct)
      clear hct hld2
      by_cases hc0 : c = 0
      case neg =>
        have q1 : ((c : Int) != 0) = true := by rw [bne_iff_ne]; omega
        have hR := Lib.hid (Hbad2.out hc0)
        clear hc0
        go_wp2_with fail
        go_ret2
        exact ⟨by rw [hR.out]; rfl, Hmt.out.chg⟩
      have ht1 := Hlen1.out hc0
      have Hok3 := Lib.hid (Hok2.out hc0)
      subst hc0
      go_wp2_with fail
      have hl1 : Lst (wt.alloc (.cells #[S t] 9)) (some ⟨wt.heap.size, 0, none⟩) 1 (strs [t]) := Lst.new wt 9 [S t]
      have hm1 := Hmt.out.below ((Chg.refl (fun _ => False) wt).alloc (.cells #[S t] 9))
      have Hm1 := Lib.hid hm1
      refine (raw_calls w.heap.size _ 1 1 [t] vv _ _ hm1.is hl1 (fun _ ad e => ?_) (by omega) ?_).mono ?_
      · injection e with e
        subst e
        refine ⟨?_, fun h => ?_⟩
        · have := Hmt.out.is.blk.lt; show wt.heap.size ≠ _; omega
        · have := (Hmt.out.is.own.lt _ h).2; dsimp only at this; omega
      · have h1 := Hroom.out
        have h2 : ((X.take k).map Prod.fst).length ≤ 1048576 := by simp; have := Hn.out; omega
        have h3 : ((X.take k).map Prod.fst).length * 1048576 ≤ 1048576 * 1048576 := Nat.mul_le_mul_right _ h2
        simp only [List.flatten_cons, List.flatten_nil, List.append_nil]
        omega
      rintro e wu ⟨rfl, hwu⟩
      obtain ⟨vu, hmu⟩ := Hm1.out.wrote hwu
      rw [← Hstep.out] at hmu
      have Hmu := Lib.hid hmu
      clear hwu hmu hl1 hm1
      go_wp2_with fail
      go_roundw
      case rel => exact ⟨k + 1, vu, by omega, by go_num, Hmu.out, Hok3.out⟩
      case measure => simp [intOf]; omega
    obtain rfl : k = X.length := by omega
    rw [List.take_length] at hmk hok
    have hR := Lib.hid (Hal.out hok)
    have Hmk := Lib.hid hmk
    clear hmk hok
    go_wp2_with fail
    refine (string_calls w.heap.size vv _ wr Hmk.out.is).mono ?_
    rintro e w9 ⟨rfl, rfl⟩
    go_wp2_with fail
    go_ret2
    exact ⟨by rw [hR.out]; rfl, Hmk.out.chg⟩
end Go.Proofs.YthkfcfkkamffpaaGreat
