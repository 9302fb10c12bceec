/-
  Layer 27: the program's Encode.
-/
import Derived.Test.YthkfcfkkamffpaaGreatYj
import Derived.Test.YthkfcfkkamffpaaGreatZb
import Derived.Test.YthkfcfkkamffpaaGreatCrc
import Derived.Test.YthkfcfkkamffpaaGreatPure
namespace Go.Proofs.YthkfcfkkamffpaaGreat
open Go.RowKit
set_option linter.unusedVariables false
set_option linter.unusedSimpArgs false
open Wm (M)
theorem IsL.off {w : World} {m : M} {L : Ls} (h : IsL w m L) {Q : Nat → Prop} (hq : ∀ b, Q b → w.heap.size ≤ b) : LOff Q L := by
  have key : ∀ {size n : Nat} {v : Value} {xs : List Value}, 0 < size → LR w size v n xs → ROff Q v := fun hz ⟨A, c, e, hr⟩ A' n' c' e' b off hn ha hb => by
    rw [e] at e'
    injection e' with h1 h2 h3
    subst h1 h2
    have := hr.lt hz b off hn ha
    have := hq b hb
    omega
  exact ⟨key (by decide) h.t, key (by decide) h.s, key (by decide) h.p, key (by decide) h.y⟩
theorem enc_of_none {m : M} (h : Wm.fields m.kind = none) : encW m = ([], 270) := by unfold encW; rw [h]
theorem enc_of_no {m : M} {l : List Wm.Fd} (h : Wm.fields m.kind = some l) (hm : Wm.mayF l m = false) : encW m = ([], 270) := by unfold encW; rw [h]; dsimp only; rw [hm]; rfl
theorem enc_of_long {m : M} {l : List Wm.Fd} (h : Wm.fields m.kind = some l) (hm : Wm.mayF l m = true) (ht : Wm.tooLong m = true) : encW m = ([], 4) := by unfold encW; rw [h]; dsimp only; rw [hm, ht]; rfl
theorem enc_of_big {m : M} {l : List Wm.Fd} (h : Wm.fields m.kind = some l) (hm : Wm.mayF l m = true) (ht : Wm.tooLong m = false) (hb : 1048576 < (Wm.body l m).length + 8) : encW m = ([], 4) := by
  unfold encW; rw [h]; dsimp only; rw [hm, ht, if_pos rfl, if_neg (by simp), if_pos hb]
theorem enc_of_ok {m : M} {l : List Wm.Fd} (h : Wm.fields m.kind = some l) (hm : Wm.mayF l m = true) (ht : Wm.tooLong m = false) (hb : ¬ 1048576 < (Wm.body l m).length + 8) : encW m = (frame (Wm.body l m), 0) := by
  unfold encW; rw [h]; dsimp only; rw [hm, ht, if_pos rfl, if_neg (by simp), if_neg hb]
theorem fits_of {m : M} {l : List Wm.Fd} (hm : Wm.mayF l m = true) (ht : Wm.tooLong m = false) : ∀ c ∈ l, Wm.fit m c = true := by
  unfold Wm.mayF at hm
  rw [ht] at hm
  simp only [Bool.false_or, Bool.and_eq_true, List.all_eq_true] at hm
  exact hm.1
/-- what Encode's call comes to -/
def EncE (m : M) (w w' : World) (e : Ending) : Prop := e = .returned (.tuple #[S (encW m).1, .int .i64 ((encW m).2 : Nat)]) ∧ Chg (fun _ => False) w w'
attribute [local go_sem ↓] ld_msg st_msg st_part
set_option maxHeartbeats 2000000 in
set_option maxRecDepth 100000 in
theorem enc_none (m : M) (L : Ls) (w : World) (hm : Nm m) (hl : IsL w m L) (he : encW m = ([], 270)) (hmay : ∀ w : World, IsL w m L → Calls Tryz.prog 39 #[.agg (mcells m L)] w fun e w' => ∃ v, e = .returned (.tuple #[v, .bool false]) ∧ Chg (fun _ => False) w w') :
    Calls Tryz.prog 17 #[.agg (mcells m L)] w fun e w' => EncE m w w' e := by
  have b0 : IsM (w.alloc (.cells (mcells m L) 36)) w.heap.size m L := Blk.new w 36 (mcells m L)
  have hld := ldM hm.hd b0
  have HP := Lib.hid (hmay (w.alloc (.cells (mcells m L) 36)) (hl.chg ((Chg.refl (fun _ => False) w).alloc _) (LOff.no _)))
  have He := Lib.hid he
  clear hmay b0 hm hl he
  go_enter Tryz.func17, Tryz.ntmps17
  go_wp2_with fail
  refine HP.out.mono ?_
  rintro e w1 ⟨v, rfl, hc⟩
  have Hc := Lib.hid hc
  clear hc
  go_wp2_with fail
  go_ret2
  exact ⟨by rw [He.out]; rfl, ((Chg.refl _ w).alloc _).trans Hc.out⟩
set_option maxHeartbeats 2000000 in
set_option maxRecDepth 100000 in
theorem enc_long (m : M) (L : Ls) (w : World) (hm : Nm m) (hl : IsL w m L) (he : encW m = ([], 4)) (hto : Wm.tooLong m = true) (hmay : ∀ w : World, IsL w m L → Calls Tryz.prog 39 #[.agg (mcells m L)] w fun e w' => ∃ v, e = .returned (.tuple #[v, .bool true]) ∧ Chg (fun _ => False) w w') :
    Calls Tryz.prog 17 #[.agg (mcells m L)] w fun e w' => EncE m w w' e := by
  have b0 : IsM (w.alloc (.cells (mcells m L) 36)) w.heap.size m L := Blk.new w 36 (mcells m L)
  have hld := ldM hm.hd b0
  have HP := Lib.hid (hmay (w.alloc (.cells (mcells m L) 36)) (hl.chg ((Chg.refl (fun _ => False) w).alloc _) (LOff.no _)))
  have He := Lib.hid he
  have B0 := Lib.hid b0
  have Hm := Lib.hid hm
  have HT := fun w => tooLong_calls m L w hm.hd
  rw [hto] at HT
  have HT' := Lib.hid HT
  clear hmay b0 hm hl he HT hto
  go_enter Tryz.func17, Tryz.ntmps17
  go_wp2_with fail
  refine HP.out.mono ?_
  rintro e w1 ⟨v, rfl, hc⟩
  have hld2 := ldM Hm.out.hd (B0.out.chg hc (fun h => h))
  have Hc := Lib.hid hc
  clear hc
  go_wp2_with fail
  refine (HT'.out _).mono ?_
  rintro e w2 ⟨rfl, hc2⟩
  have Hc2 := Lib.hid hc2
  clear hc2
  go_wp2_with fail
  go_ret2
  exact ⟨by rw [He.out]; rfl, (((Chg.refl _ w).alloc _).trans Hc.out).trans Hc2.out⟩
set_option maxHeartbeats 4000000 in
set_option maxRecDepth 100000 in
theorem enc_go (m : M) (L : Ls) (l : List Wm.Fd) (w : World) (hm : Nm m) (hl : IsL w m L) (hf : Wm.fields m.kind = some l) (hma : Wm.mayF l m = true) (hto : Wm.tooLong m = false) :
    Calls Tryz.prog 17 #[.agg (mcells m L)] w fun e w' => EncE m w w' e := by
  have b0 : IsM (w.alloc (.cells (mcells m L) 36)) w.heap.size m L := Blk.new w 36 (mcells m L)
  have hld := ldM hm.hd b0
  have hl0 := hl.chg ((Chg.refl (fun _ => False) w).alloc (.cells (mcells m L) 36)) (LOff.no _)
  have HP0 := may_calls m L (w.alloc (.cells (mcells m L) 36)) hm hl0
  have hfits := fits_of hma hto
  have HP : Calls Tryz.prog 39 #[.agg (mcells m L)] (w.alloc (.cells (mcells m L) 36)) fun e w' => ∃ v Q, e = .returned (.tuple #[v, .bool true]) ∧ Q.map Prod.fst = l ∧ IsPs w' (w.heap.size + 1) Q v ∧ Chg (fun _ => False) (w.alloc (.cells (mcells m L) 36)) w' := HP0.mono fun e w' h => by
    rcases h with ⟨h1, _⟩ | ⟨l', h1, v, Q, h2, h3, h4⟩
    · rw [hf] at h1; cases h1
    · rw [hf] at h1
      injection h1 with h1
      subst h1
      rw [hma] at h2
      obtain ⟨h5, h6⟩ := h3 hma
      exact ⟨v, Q, h2, h5, by simpa using h6, h4⟩
  have HP' := Lib.hid HP
  have B0 := Lib.hid b0
  have Hm := Lib.hid hm
  have Hl := Lib.hid hl
  have Hf := Lib.hid hf
  have Hma := Lib.hid hma
  have Hto := Lib.hid hto
  have Hfits := Lib.hid hfits
  have HT := fun w => tooLong_calls m L w hm.hd
  rw [hto] at HT
  have HT' := Lib.hid HT
  clear b0 hm hl hl0 HP0 HP hf hma hto hfits HT
  go_enter Tryz.func17, Tryz.ntmps17
  go_wp2_with fail
  refine HP'.out.mono ?_
  rintro e w1 ⟨v, Q, rfl, hQ, hps, hc⟩
  have hld2 := ldM Hm.out.hd (B0.out.chg hc (fun h => h))
  obtain ⟨A, c, rfl, hrow⟩ := hps.row
  have hQ4 : Q.length ≤ 4 := by
    have h4 := fields_len m.kind Hf.out
    rw [← hQ, List.length_map] at h4
    exact h4
  have HQ := Lib.hid hQ
  have Hps := Lib.hid hps
  have Hc := Lib.hid hc
  clear hld hQ hps hc hrow
  go_wp2_with fail
  refine (HT'.out _).mono ?_
  rintro e w2 ⟨rfl, hc2⟩
  have Hc12 := Lib.hid (Hc.out.trans hc2)
  have Hps2 := Lib.hid ((Hps.out).chg hc2 (fun b _ h => h))
  clear hld2 hc2 Hps Hc
  go_wp2_with fail
  refine (new_calls w2).mono ?_
  rintro e w3 ⟨rfl, hw3, hb3, _⟩
  have hmi : Mine w2 w3 w2.heap.size (.slice none 0 0) [] := ⟨hw3, Chg.of_below hb3 _, Nat.le_refl _, by rintro k ⟨⟩⟩
  have fm := (IsM.mf (B0.out.chg (Hc12.out.trans hmi.chg) (fun h => h)) Hm.out.hd)
  have u0 := fm.kind
  have Hmi := Lib.hid hmi
  clear hw3 hb3 hmi fm
  go_wp2_with fail
  refine (put_kind w2.heap.size m.kind _ [] w3 Hmi.out.is (by simp) (Lib.hid ⟨by omega, by have := Hm.out.kind; omega⟩)).mono ?_
  rintro e w4 ⟨rfl, hw4⟩
  obtain ⟨v4, hmi4⟩ := Hmi.out.wrote hw4
  have u1 := (IsM.mf (B0.out.chg (Hc12.out.trans hmi4.chg) (fun h => h)) Hm.out.hd).id
  have Hmi4 := Lib.hid hmi4
  clear hw4 hmi4 u0
  go_wp2_with fail
  refine (put_uint32 w2.heap.size m.id _ _ w4 Hmi4.out.is (by simp [Pk.be_length])).mono ?_
  rintro e w5 ⟨rfl, hw5⟩
  obtain ⟨v5, hmi5⟩ := Hmi4.out.wrote hw5
  have Hmi5 := Lib.hid hmi5
  clear hw5 hmi5 u1
  have Hlen : ∀ k ≤ Q.length, (([] ++ Pk.be 1 (m.kind : Int)) ++ Pk.be 4 (m.id : Int) ++ ((Q.take k).map Prod.fst).flatMap (Wm.fb m)).length ≤ 5 + 4 * 1048600 := fun k hk => by
    have h1 := fbs_len Hm.out.ok ((Q.take k).map Prod.fst) (fun c hc => by
      refine Hfits.out c ?_
      rw [← HQ.out]
      obtain ⟨x, hx, e⟩ := List.mem_map.1 hc
      exact List.mem_map.2 ⟨x, List.mem_of_mem_take hx, e⟩)
    have h2 : ((Q.take k).map Prod.fst).length ≤ 4 := by simp; omega
    have h3 : ((Q.take k).map Prod.fst).length * 1048600 ≤ 4 * 1048600 := Nat.mul_le_mul_right _ h2
    simp only [List.length_append, Pk.be_length, List.length_nil]
    omega
  have Hlen' := Lib.hid Hlen
  clear Hlen
  go_wp2_with fail
  go_loopw [8, 30] (fun _ iv wr => ∃ (k : Nat) (vv : Value), k ≤ Q.length ∧ iv = .int .i64 k ∧ Mine w2 wr w2.heap.size vv (([] ++ Pk.be 1 (m.kind : Int)) ++ Pk.be 4 (m.id : Int) ++ ((Q.take k).map Prod.fst).flatMap (Wm.fb m))) (fun _ iv _ => Q.length - (intOf iv).toNat)
  case atStart => exact ⟨0, v5, by omega, rfl, by simpa using Hmi5.out⟩
  case round =>
    obtain ⟨k, vv, hk, rfl, hmk⟩ := hrel
    by_cases hp : k < Q.length
    · obtain ⟨⟨c, bs⟩, hx⟩ : ∃ x, Q[k]? = some x := ⟨_, List.getElem?_eq_getElem hp⟩
      have hmem := List.mem_of_getElem? hx
      obtain ⟨b, off, cc, hv, hcell⟩ := pcells_at Q (((Hps2.out).chg hmk.chg (fun b _ h => h)).row) hx
      injection hv with hA hcc hcap
      subst hA hcap
      have d0 := hcell 0 _ rfl
      have d1 := hcell 1 _ rfl
      have d2 := hcell 2 _ rfl
      have d3 := hcell 3 _ rfl
      rw [Nat.add_zero] at d0
      have hbz := Blk.new wr 88 #[.nilFunc, .nilFunc, .nilFunc, .nilFunc]
      have hst := st_p hbz rfl (.func (layF c)) (.func (takeF c)) (.func (copyF c)) (.func (mayF c)) (caps bs (layI c)) (caps bs (takeI c)) (caps bs (copyI c)) (caps bs (mayI c))
      have hb2 := Blk.setRow hbz #[.func (.func (layF c)) #[] (caps bs (layI c)), .func (.func (takeF c)) #[] (caps bs (takeI c)), .func (.func (copyF c)) #[] (caps bs (copyI c)), .func (.func (mayF c)) #[] (caps bs (mayI c))]
      have f0 := hb2.cell 0
      have hcx : Chg (fun _ => False) wr ((wr.alloc (.cells #[.nilFunc, .nilFunc, .nilFunc, .nilFunc] 88)).setRow wr.heap.size #[.func (.func (layF c)) #[] (caps bs (layI c)), .func (.func (takeF c)) #[] (caps bs (takeI c)), .func (.func (copyF c)) #[] (caps bs (copyI c)), .func (.func (mayF c)) #[] (caps bs (mayI c))]) :=
        Chg.setRow ((Chg.refl (fun _ => False) wr).alloc _) (.inr (Nat.le_refl _)) _
      have hrm := run_lay c
      have Hx := Lib.hid hx
      have Hmem := Lib.hid hmem
      have Hmk := Lib.hid (hmk.below hcx)
      clear hx hmem hcell hmk hb2 hbz hcx
      go_wp2_with fail
      clear d0 d1 d2 d3 f0 hst
      generalize hwx : ((wr.alloc (.cells #[.nilFunc, .nilFunc, .nilFunc, .nilFunc] 88)).setRow wr.heap.size #[.func (.func (layF c)) #[] (caps bs (layI c)), .func (.func (takeF c)) #[] (caps bs (takeI c)), .func (.func (copyF c)) #[] (caps bs (copyI c)), .func (.func (mayF c)) #[] (caps bs (mayI c))]) = wx at *
      clear hwx
      have hpart := ((Hps2.out).part _ Hmem.out).1
      have hbel := (Hps2.out).below Hmem.out
      have hq : ∀ k, (k = w2.heap.size ∨ vv.ownBlock = some k) → w2.heap.size ≤ k := fun k h => h.elim (fun h => by omega) (Hmk.out.v0 k)
      have hw2 : w.heap.size < w2.heap.size := by have := (Hc12.out).size; simp at this; omega
      have hch := ((Chg.refl (fun _ => False) w).alloc (.cells (mcells m L) 36)).trans (Hc12.out.trans Hmk.out.chg)
      refine (part_lay c bs w2.heap.size w.heap.size m L vv _ wx Hmk.out.is (hpart.chg Hmk.out.chg (fun i hi h => h)) (B0.out.chg (Hc12.out.trans Hmk.out.chg) (fun h => h)) Hm.out (Hl.out.chg hch (LOff.no _)) (Hfits.out c (by rw [← HQ.out]; exact List.mem_map.2 ⟨_, Hmem.out, rfl⟩))
        (by have := Hlen'.out k hk; omega) (fun h => by have := hq _ h; omega) (fun i hi h => by have h1 := hbel i hi; have h2 := hq _ h; dsimp only at h1; omega) (Hl.out.off (fun b h => by have := hq b h; omega))).mono ?_
      rintro e wy ⟨rfl, hwy⟩
      obtain ⟨v6, hmi6⟩ := Hmk.out.wrote hwy
      have Hmi6 := Lib.hid hmi6
      clear hwy hmi6 hpart hbel hq hw2 hch
      go_wp2_with fail
      go_roundw
      case rel =>
        refine ⟨k + 1, v6, by omega, by go_num, ?_⟩
        have := Hmi6.out
        rw [List.take_add_one, Hx.out]
        simpa using this
      case measure => simp [intOf]; omega
    · obtain rfl : k = Q.length := by omega
      rw [List.take_length, HQ.out] at hmk
      have hbody : ([] ++ Pk.be 1 (m.kind : Int)) ++ Pk.be 4 (m.id : Int) ++ l.flatMap (Wm.fb m) = Wm.body l m := by simp [Wm.body]
      rw [hbody] at hmk
      have hbl : (Wm.body l m).length ≤ 5 + 4 * 1048600 := by
        have := Hlen'.out Q.length (Nat.le_refl _)
        rw [List.take_length, HQ.out, hbody] at this
        exact this
      have Hmk := Lib.hid hmk
      clear hmk hbody Hlen'
      by_cases hbig : 1048576 < (Wm.body l m).length + 8
      · have hbi : (1048576 : Int) < (Wm.body l m).length + 8 := by omega
        have Hbig := Lib.hid hbig
        clear hbig
        go_wp2_with fail
        refine (len_calls w2.heap.size vv _ wr Hmk.out.is).mono ?_
        rintro e w7 ⟨rfl, rfl⟩
        go_wp2_with fail
        go_ret2
        exact ⟨by rw [enc_of_big Hf.out Hma.out Hto.out Hbig.out]; rfl, (((Chg.refl _ w).alloc _).trans Hc12.out).trans Hmk.out.chg⟩
      · have hbi : decide ((1048576 : Int) < ((Wm.body l m).length : Int) + 8) = false := decide_eq_false (by omega)
        have Hbig := Lib.hid hbig
        clear hbig
        go_wp2_with fail
        refine (len_calls w2.heap.size vv _ wr Hmk.out.is).mono ?_
        rintro e w7 ⟨rfl, rfl⟩
        go_wp2_with fail
        refine (new_calls wr).mono ?_
        rintro e w8 ⟨rfl, hw8, hb8, _⟩
        have hm8 : Mine wr w8 wr.heap.size (.slice none 0 0) [] := ⟨hw8, Chg.of_below hb8 _, Nat.le_refl _, by rintro k ⟨⟩⟩
        have Hm8 := Lib.hid hm8
        clear hw8 hb8 hm8
        have hlb := (Hmk.out.below Hm8.out.chg).is
        have Hlb := Lib.hid hlb
        clear hlb
        have hcv : (((Wm.body l m).length : Int) + 4) % 4294967296 = ((Wm.body l m).length : Int) + 4 := by omega
        go_wp2_with fail
        refine (len_calls w2.heap.size vv _ w8 Hlb.out).mono ?_
        rintro e w9 ⟨rfl, rfl⟩
        go_wp2_with fail
        refine (put_uint32 wr.heap.size _ _ [] w8 Hm8.out.is (by simp)).mono ?_
        rintro e w9 ⟨rfl, hw9⟩
        obtain ⟨v9, hm9⟩ := Hm8.out.wrote hw9
        rw [List.nil_append] at hm9
        have Hm9 := Lib.hid hm9
        have Hl9 := Lib.hid (Hmk.out.below hm9.chg).is
        clear hw9 hm9 hcv Hlb
        go_wp2_with fail
        refine (string_calls w2.heap.size vv _ w9 Hl9.out).mono ?_
        rintro e w10 ⟨rfl, rfl⟩
        go_wp2_with fail
        have hl10 : Lst (w9.alloc (.cells #[S (Wm.body l m)] 9)) (some ⟨w9.heap.size, 0, none⟩) 1 (strs [Wm.body l m]) := Lst.new w9 9 [S (Wm.body l m)]
        have hm10 := Hm9.out.below ((Chg.refl (fun _ => False) w9).alloc (.cells #[S (Wm.body l m)] 9))
        have Hm10 := Lib.hid hm10
        refine (raw_calls wr.heap.size _ 1 1 [Wm.body l m] v9 _ _ hm10.is hl10 (fun _ ad e => ?_) (by omega) (by simp [Pk.be_length]; omega)).mono ?_
        · injection e with e
          subst e
          refine ⟨?_, fun h => ?_⟩
          · have := Hm9.out.is.blk.lt; show w9.heap.size ≠ _; omega
          · have := (Hm9.out.is.own.lt _ h).2; dsimp only at this; omega
        rintro e w11 ⟨rfl, hw11⟩
        obtain ⟨v11, hm11⟩ := Hm10.out.wrote hw11
        have hF : Pk.be 4 (((Wm.body l m).length : Int) + 4) ++ [Wm.body l m].flatten = fore (Wm.body l m) := by simp [fore]
        rw [hF] at hm11
        have Hm11 := Lib.hid hm11
        have hfl := fore_len (Wm.body l m)
        have Hfl := Lib.hid hfl
        clear hw11 hm11 hl10 hm10 Hm10 Hl9 hF hfl
        go_wp2_with fail
        refine (string_calls wr.heap.size v11 _ w11 Hm11.out.is).mono ?_
        rintro e w12 ⟨rfl, rfl⟩
        go_wp2_with fail
        have hl12 : Lst (w11.alloc (.cells #[S (fore (Wm.body l m))] 9)) (some ⟨w11.heap.size, 0, none⟩) 1 (strs [fore (Wm.body l m)]) := Lst.new w11 9 [S (fore (Wm.body l m))]
        have Hm12 := Lib.hid (Hm11.out.below ((Chg.refl (fun _ => False) w11).alloc (.cells #[S (fore (Wm.body l m))] 9)))
        refine (crc_calls _ 1 1 [fore (Wm.body l m)] _ hl12 (by omega) (by simp [Hfl.out]; omega)).mono ?_
        rintro e w13 ⟨rfl, rfl⟩
        rw [show [fore (Wm.body l m)].flatten = fore (Wm.body l m) by simp]
        clear hl12
        go_wp2_with fail
        refine (put_uint32 wr.heap.size _ _ _ _ Hm12.out.is (by rw [Hfl.out]; omega)).mono ?_
        rintro e w14 ⟨rfl, hw14⟩
        obtain ⟨v14, hm14⟩ := Hm12.out.wrote hw14
        have Hm14 := Lib.hid hm14
        clear hw14 hm14
        go_wp2_with fail
        refine (string_calls wr.heap.size v14 _ w14 Hm14.out.is).mono ?_
        rintro e w15 ⟨rfl, rfl⟩
        go_wp2_with fail
        go_ret2
        exact ⟨by rw [enc_of_ok Hf.out Hma.out Hto.out Hbig.out]; rfl, ((((Chg.refl _ w).alloc _).trans Hc12.out).trans Hmk.out.chg).trans Hm14.out.chg⟩
set_option maxRecDepth 100000 in
theorem encode_calls (m : M) (L : Ls) (w : World) (hm : Nm m) (hl : IsL w m L) : Calls Tryz.prog 17 #[.agg (mcells m L)] w fun e w' => EncE m w w' e := by
  cases hf : Wm.fields m.kind with
  | none =>
    refine enc_none m L w hm hl (enc_of_none hf) (fun w hl => (may_calls m L w hm hl).mono fun e w' h => ?_)
    rcases h with ⟨_, h2, h3⟩ | ⟨l, h1, _⟩
    · exact ⟨_, h2, h3⟩
    · rw [hf] at h1; cases h1
  | some l =>
    have hmay : ∀ w : World, IsL w m L → Calls Tryz.prog 39 #[.agg (mcells m L)] w fun e w' => ∃ v, e = .returned (.tuple #[v, .bool (Wm.mayF l m)]) ∧ Chg (fun _ => False) w w' := fun w hl => (may_calls m L w hm hl).mono fun e w' h => by
      rcases h with ⟨h1, _⟩ | ⟨l', h1, v, Q, h2, _, h4⟩
      · rw [hf] at h1; cases h1
      · rw [hf] at h1
        injection h1 with h1
        subst h1
        exact ⟨v, h2, h4⟩
    cases hma : Wm.mayF l m
    · rw [hma] at hmay
      exact enc_none m L w hm hl (enc_of_no hf hma) hmay
    · rw [hma] at hmay
      cases hto : Wm.tooLong m
      · exact enc_go m L l w hm hl hf hma hto
      · exact enc_long m L w hm hl (enc_of_long hf hma hto) hto hmay
set_option maxHeartbeats 2000000 in
set_option maxRecDepth 100000 in
theorem check_calls (m : M) (L : Ls) (w : World) (hm : Nm m) (hl : IsL w m L) : Calls Tryz.prog 18 #[.agg (mcells m L)] w fun e w' => e = .returned (.int .i64 ((encW m).2 : Nat)) ∧ Chg (fun _ => False) w w' := by
  have b0 : IsM (w.alloc (.cells (mcells m L) 36)) w.heap.size m L := Blk.new w 36 (mcells m L)
  have hld := ldM hm.hd b0
  have HP := Lib.hid (encode_calls m L (w.alloc (.cells (mcells m L) 36)) hm (hl.chg ((Chg.refl (fun _ => False) w).alloc _) (LOff.no _)))
  clear b0 hm hl
  go_enter Tryz.func18, Tryz.ntmps18
  go_wp2_with fail
  refine HP.out.mono ?_
  rintro e w1 ⟨rfl, hc⟩
  have Hc := Lib.hid hc
  clear hc
  go_wp2_with fail
  go_ret
  exact ⟨rfl, ((Chg.refl _ w).alloc _).trans Hc.out⟩
end Go.Proofs.YthkfcfkkamffpaaGreat
