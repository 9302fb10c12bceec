/-
  Layer 27: the program's Frames.
-/
import Derived.Test.YthkfcfkkamffpaaGreatYt
namespace Go.Proofs.YthkfcfkkamffpaaGreat
open Go.RowKit
set_option linter.unusedVariables false
set_option linter.unusedSimpArgs false
open Wm (M)
/-- what Frames answers -/
def framesW : List M → List UInt8 × Nat
  | [] => ([], 0)
  | m :: r => if (encW m).2 ≠ 0 then ([], (encW m).2) else if (framesW r).2 ≠ 0 then ([], (framesW r).2) else ((encW m).1 ++ (framesW r).1, 0)
theorem frames_ok : ∀ l : List M, (∀ m ∈ l, (encW m).2 = 0) → framesW l = (l.flatMap fun m => (encW m).1, 0)
  | [], _ => rfl
  | m :: r, h => by
    have h1 := frames_ok r (fun x hx => h x (by simp [hx]))
    unfold framesW
    rw [if_neg (by simp [h m (by simp)]), h1, if_neg (by simp)]
    rfl
theorem frames_bad : ∀ (l : List M) (k : Nat) (m : M), l[k]? = some m → (∀ x ∈ l.take k, (encW x).2 = 0) → (encW m).2 ≠ 0 → framesW l = ([], (encW m).2)
  | [], _, _, h, _, _ => by simp at h
  | x :: r, 0, m, h, _, hb => by
    simp at h
    subst h
    unfold framesW
    rw [if_pos hb]
  | x :: r, k + 1, m, h, ha, hb => by
    have h1 := frames_bad r k m (by simpa using h) (fun y hy => ha y (by simp [hy])) hb
    unfold framesW
    rw [if_neg (by simp [ha x (by simp)]), h1, if_pos hb]
theorem encs_len : ∀ l : List M, (∀ m ∈ l, (encW m).2 = 0) → (l.flatMap fun m => (encW m).1).length ≤ l.length * 1048576
  | [], _ => by simp
  | m :: r, h => by
    have h1 := encs_len r (fun x hx => h x (by simp [hx]))
    have h2 := (enc_len (m := m) (s := (encW m).1) (by rw [← h m (by simp)])).2
    rw [List.flatMap_cons, List.length_append, List.length_cons, Nat.succ_mul]
    omega
theorem ldM_at {w : World} {b off : Nat} {m : M} {L : Ls} (hd : Dg m) (h : ∀ j u, (mc m L)[j]? = some u → w.cell? ⟨b, off + j, none⟩ = some u) : (ldAgg 36 (.pointer (some ⟨b, off, none⟩))).run Tryz.prog w = .ok (.agg (mcells m L)) w :=
  ldAgg_of Tryz.underlying36 rfl (by rw [mc_len m L hd]; exact info_msg) (fun j v hv => h j v (by simpa [mcells] using hv))
attribute [local go_sem ↓] ld_msg st_msg
set_option maxHeartbeats 8000000 in
set_option maxRecDepth 100000 in
theorem frames_calls (X : List (M × Ls)) (v : Value) (w : World) (hr : LR w 84 v X.length (X.flatMap fun x => mc x.1 x.2)) (hx : ∀ x ∈ X, Nm x.1 ∧ IsL w x.1 x.2) (hn : X.length ≤ 1048576) :
    Calls Tryz.prog 33 #[v] w fun e w' => e = .returned (.tuple #[S (framesW (X.map Prod.fst)).1, .int .i64 ((framesW (X.map Prod.fst)).2 : Nat)]) ∧ Chg (fun _ => False) w w' := by
  obtain ⟨A, cc, rfl, hrl⟩ := hr
  have Hr := Lib.hid hrl
  have Hx := Lib.hid hx
  have Hn := Lib.hid hn
  have Hal := Lib.hid (fun h1 => frames_ok (X.map Prod.fst) h1)
  have Hbad := Lib.hid (frames_bad (X.map Prod.fst))
  have Hlen := Lib.hid (fun (k : Nat) (h : ∀ m ∈ (X.take k).map Prod.fst, (encW m).2 = 0) => encs_len _ h)
  generalize framesW (X.map Prod.fst) = R at *
  clear hrl hx
  go_enter Tryz.func33, Tryz.ntmps33
  go_wp2_with fail
  refine (new_calls w).mono ?_
  rintro e w1 ⟨rfl, hw1, hb1, _⟩
  have hmi : Mine w w1 w.heap.size (.slice none 0 0) [] := ⟨hw1, Chg.of_below hb1 _, Nat.le_refl _, by rintro k ⟨⟩⟩
  have Hmi := Lib.hid hmi
  clear hw1 hb1 hmi
  go_wp2_with fail
  go_loopw [12] (fun iv wr => ∃ (k : Nat) (vv : Value), k ≤ X.length ∧ iv = .int .i64 k ∧ Mine w wr w.heap.size vv (((X.take k).map Prod.fst).flatMap fun m => (encW m).1) ∧ ∀ m ∈ (X.take k).map Prod.fst, (encW m).2 = 0) (fun iv _ => X.length - (intOf iv).toNat)
  case atStart => exact ⟨0, _, by omega, rfl, by simpa using Hmi.out, fun m hm => by simp at hm⟩
  case round =>
    obtain ⟨k, vv, hk, rfl, hmk, hok⟩ := hrel
    by_cases hp : k < X.length
    case pos =>
      obtain ⟨⟨m, L⟩, hxk⟩ : ∃ x, X[k]? = some x := ⟨_, List.getElem?_eq_getElem hp⟩
      obtain ⟨hnm, hil⟩ := Hx.out _ (List.mem_of_getElem? hxk)
      have hmap : (X.map Prod.fst)[k]? = some m := by rw [List.getElem?_map, hxk]; rfl
      obtain ⟨b, off, rfl, hcell⟩ := RL.at_ (size := 84) (f := fun x : M × Ls => mc x.1 x.2) (fun x hm => by have := mc_len x.1 x.2 (Hx.out x hm).1.hd; simpa [mcells] using this) (Hr.out.chg hmk.chg (fun _ _ _ _ h => h)) hxk
      have hld := ldM_at hnm.hd hcell
      have hst := stM (Blk.new wr 36 Tryz.zeroCells36) (by rw [zero_msg]; exact mc_len _ _ (only_dg 0 0)) hnm.hd hil.slc
      have hbm : IsM ((wr.alloc (.cells Tryz.zeroCells36 36)).setRow wr.heap.size (mcells m L)) wr.heap.size m L := Blk.setRow (Blk.new wr 36 Tryz.zeroCells36) _
      have hcx : Chg (fun _ => False) wr ((wr.alloc (.cells Tryz.zeroCells36 36)).setRow wr.heap.size (mcells m L)) := Chg.setRow ((Chg.refl _ wr).alloc _) (.inr (Nat.le_refl _)) _
      have HE := encode_calls m L _ hnm (hil.chg (hmk.chg.trans hcx) (LOff.no _))
      unfold EncE at HE
      have HE := Lib.hid HE
      have Hm := Lib.hid hbm
      have Hmk := Lib.hid (hmk.below hcx)
      have Hnm := Lib.hid hnm
      have Hok := Lib.hid hok
      have Hxk := Lib.hid hxk
      have Hmap := Lib.hid hmap
      clear hnm hil hcell hbm hcx hmk hok hxk hmap
      go_upto_region 5 with fail
      generalize (wr.alloc (.cells Tryz.zeroCells36 36)).setRow wr.heap.size (mcells m L) = ws at *
      clear hld hst
      have hld2 := ldM Hnm.out.hd Hm.out
      have hlen1 : (encW m).2 = 0 → (encW m).1.length ≤ 1048576 := fun h => (enc_len (m := m) (s := (encW m).1) (by rw [← h])).2
      have hbad : (encW m).2 ≠ 0 → R = ([], (encW m).2) := fun h => Hbad.out k m Hmap.out (by rw [← List.map_take]; exact Hok.out) h
      have hstep : ((X.take (k + 1)).map Prod.fst).flatMap (fun m => (encW m).1) = (((X.take k).map Prod.fst).flatMap fun m => (encW m).1) ++ [(encW m).1].flatten := by
        rw [List.take_add_one, Hxk.out]
        simp
      have hok2 : (encW m).2 = 0 → ∀ x ∈ (X.take (k + 1)).map Prod.fst, (encW x).2 = 0 := fun h x hx => by
        rw [List.take_add_one, Hxk.out] at hx
        simp only [Option.toList_some, List.map_append, List.map_cons, List.map_nil, List.mem_append, List.mem_singleton] at hx
        rcases hx with hx | hx
        · exact Hok.out x hx
        · subst hx; exact h
      have hroom := Hlen.out k Hok.out
      have Hbad2 := Lib.hid hbad
      have Hstep := Lib.hid hstep
      have Hok2 := Lib.hid hok2
      have Hlen1 := Lib.hid hlen1
      have Hroom := Lib.hid hroom
      clear hbad hstep hok2 hlen1 hroom
      obtain ⟨c, hc⟩ : ∃ c, (encW m).2 = c := ⟨_, rfl⟩
      obtain ⟨t, ht⟩ : ∃ t, (encW m).1 = t := ⟨_, rfl⟩
      rw [hc, ht] at HE
      rw [hc] at Hbad2 Hok2 Hlen1
      rw [ht] at Hstep Hlen1
      clear hc ht
      go_wp2_with fail
      refine HE.out.mono ?_
      rintro e wt ⟨rfl, hct⟩
      have Hmt := Lib.hid (Hmk.out.below hct)
      clear hct hld2
      by_cases hc0 : c = 0
      case neg =>
        have q1 : ((c : Int) != 0) = true := by rw [bne_iff_ne]; omega
        have hR := Lib.hid (Hbad2.out hc0)
        clear hc0
        go_wp2_with fail
        go_ret2
        exact ⟨by rw [hR.out]; rfl, Hmt.out.chg⟩
      have ht1 := Hlen1.out hc0
      have Hok3 := Lib.hid (Hok2.out hc0)
      subst hc0
      go_wp2_with fail
      have hl1 : Lst (wt.alloc (.cells #[S t] 9)) (some ⟨wt.heap.size, 0, none⟩) 1 (strs [t]) := Lst.new wt 9 [S t]
      have hm1 := Hmt.out.below ((Chg.refl (fun _ => False) wt).alloc (.cells #[S t] 9))
      have Hm1 := Lib.hid hm1
      refine (raw_calls w.heap.size _ 1 1 [t] vv _ _ hm1.is hl1 (fun _ ad e => ?_) (by omega) ?_).mono ?_
      · injection e with e
        subst e
        refine ⟨?_, fun h => ?_⟩
        · have := Hmt.out.is.blk.lt; show wt.heap.size ≠ _; omega
        · have := (Hmt.out.is.own.lt _ h).2; dsimp only at this; omega
      · have h1 := Hroom.out
        have h2 : ((X.take k).map Prod.fst).length ≤ 1048576 := by simp; have := Hn.out; omega
        have h3 : ((X.take k).map Prod.fst).length * 1048576 ≤ 1048576 * 1048576 := Nat.mul_le_mul_right _ h2
        simp only [List.flatten_cons, List.flatten_nil, List.append_nil]
        omega
      rintro e wu ⟨rfl, hwu⟩
      obtain ⟨vu, hmu⟩ := Hm1.out.wrote hwu
      rw [← Hstep.out] at hmu
      have Hmu := Lib.hid hmu
      clear hwu hmu hl1 hm1
      go_wp2_with fail
      go_roundw
      case rel => exact ⟨k + 1, vu, by omega, by go_num, Hmu.out, Hok3.out⟩
      case measure => simp [intOf]; omega
    obtain rfl : k = X.length := by omega
    rw [List.take_length] at hmk hok
    have hR := Lib.hid (Hal.out hok)
    have Hmk := Lib.hid hmk
    clear hmk hok
    go_wp2_with fail
    refine (string_calls w.heap.size vv _ wr Hmk.out.is).mono ?_
    rintro e w9 ⟨rfl, rfl⟩
    go_wp2_with fail
    go_ret2
    exact ⟨by rw [hR.out]; rfl, Hmk.out.chg⟩
end Go.Proofs.YthkfcfkkamffpaaGreat
