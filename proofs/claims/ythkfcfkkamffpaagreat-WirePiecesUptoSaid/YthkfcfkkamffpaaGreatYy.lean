/-
  Layer 27: the walk of WireStream.
-/
import Derived.Test.YthkfcfkkamffpaaGreatYr
import Derived.Test.YthkfcfkkamffpaaGreatYw
namespace Go.Proofs.YthkfcfkkamffpaaGreat
open Go.RowKit
set_option linter.unusedVariables false
set_option linter.unusedSimpArgs false
open Wm (M)
theorem lr_own {w : World} {b : Nat} {e : TypeId} {size n : Nat} {v : Value} {xs : List Value} (ho : w.ownsRow b e size v n xs) : LR w size v n xs := by
  obtain ⟨hl, ho⟩ := ho
  rcases ho with ⟨hv, hn⟩ | ⟨g, cap, cur, hv, hg, hb, hc, hx⟩
  · subst hn
    exact ⟨none, 0, hv, by simpa using hl, fun h => absurd h (Nat.lt_irrefl 0)⟩
  · obtain ⟨h1, h2, h3⟩ := hx
    refine ⟨some ⟨g, 0, none⟩, cap, hv, hl, fun _ => ⟨g, 0, rfl, fun j u hu => ?_⟩⟩
    rw [Nat.zero_add, cell_of_row w g j cur e (0, 0) hb]
    rw [← h3, List.getElem?_take] at hu
    split at hu
    · simpa using hu
    · cases hu
theorem frames_yes : ∀ l : List M, (framesW l).2 = 0 → ∀ m ∈ l, (encW m).2 = 0
  | [], _, _, h => by simp at h
  | x :: r, h, m, hm => by
    by_cases h1 : (encW x).2 ≠ 0
    · exfalso
      unfold framesW at h
      rw [if_pos h1] at h
      exact h1 h
    · by_cases h2 : (framesW r).2 ≠ 0
      · exfalso
        unfold framesW at h
        rw [if_neg h1, if_pos h2] at h
        exact h2 h
      · rcases List.mem_cons.1 hm with e | e
        · subst e; omega
        · exact frames_yes r (by omega) m e
theorem frames_err : ∀ l : List M, (framesW l).2 ≠ 0 → (framesW l).1 = []
  | [], _ => rfl
  | x :: r, h => by
    unfold framesW
    unfold framesW at h
    split
    · rfl
    · rename_i h1
      rw [if_neg h1] at h
      split
      · rfl
      · rename_i h2
        rw [if_neg h2] at h
        exact absurd rfl h
theorem feed_frames : ∀ l : List M, (∀ m ∈ l, Ok m ∧ (encW m).2 = 0) → feedW (l.flatMap fun m => (encW m).1) = (l, 0, [])
  | [], _ => feed_short (by simp)
  | m :: r, h => by
    have h1 := feed_frames r (fun x hx => h x (by simp [hx]))
    obtain ⟨ho, he⟩ := h m (by simp)
    rw [List.flatMap_cons, feed_frame ho (show encW m = ((encW m).1, 0) by rw [← he]), h1]
theorem push_all (s : List UInt8) (l : List M) (hn : ∀ m ∈ l, Nm m) (hf : feedW s = (l, 0, [])) (hs : s.length ≤ 2199023255552) (W : World) (g : Nat) (h : IsRd W g [] 0) :
    Calls Tryz.prog 26 #[pt g, S s] W fun e w' => ∃ A c, ∃ Y : List (M × Ls), e = .returned (.tuple #[.slice A l.length c, .int .i64 0]) ∧ Y.map Prod.fst = l ∧ RL w' A 84 Y.length (Y.flatMap fun x => mc x.1 x.2) ∧ (∀ y ∈ Y, Nm y.1 ∧ IsL w' y.1 y.2) ∧ IsRd w' g [] 0 ∧ Chg (fun k => k = g) W w' := by
  refine (push_calls g [] s 0 W h (by simpa using hs)).mono fun e w' ⟨v, Y, h1, h2, h3, h4, h5, h6⟩ => ?_
  have hw : pushW [] 0 s = (l, 0, [], 0) := by
    unfold pushW
    rw [if_neg (by omega), List.nil_append, hf]
  rw [hw] at h1 h2 h5
  have hY : Y.length = l.length := by have := congrArg List.length h2; simpa using this
  obtain ⟨A, c, rfl, hr⟩ := lr_own h3
  rw [hY] at h1
  have h2' : Y.map Prod.fst = l := h2
  exact ⟨A, c, Y, h1, h2', hr, fun y hy => ⟨hn _ (by rw [← h2']; exact List.mem_map_of_mem hy), (h4.mem y hy).isl⟩, h5, h6⟩
attribute [local go_sem ↓] ld_msg st_msg
set_option maxHeartbeats 8000000 in
set_option maxRecDepth 100000 in
theorem wireStream_walk (X : List (M × Ls)) (v : Value) (w : World) (hr : LR w 84 v X.length (X.flatMap fun x => mc x.1 x.2)) (hx : ∀ x ∈ X, Nm x.1 ∧ IsL w x.1 x.2) (hn : X.length ≤ 1048576) :
    Calls Tryz.prog 14 #[v] w fun e w' => e = .returned (.bool true) ∧ Chg (fun _ => False) w w' := by
  have hF := fun (W : World) (hc : Chg (fun _ => False) w W) => frames_calls X v W (hr.chg hc (fun _ _ _ _ _ _ _ _ h => h)) (fun x h => ⟨(hx x h).1, (hx x h).2.chg hc (LOff.no _)⟩) hn
  have herr : (framesW (X.map Prod.fst)).2 ≠ 0 → (framesW (X.map Prod.fst)).1 = [] := frames_err _
  have hP : (framesW (X.map Prod.fst)).2 = 0 → ∀ (W : World) (g : Nat), IsRd W g [] 0 →
      Calls Tryz.prog 26 #[pt g, S (framesW (X.map Prod.fst)).1] W fun e w' => ∃ A c, ∃ Y : List (M × Ls), e = .returned (.tuple #[.slice A X.length c, .int .i64 0]) ∧ Y.map Prod.fst = X.map Prod.fst ∧ RL w' A 84 Y.length (Y.flatMap fun x => mc x.1 x.2) ∧ (∀ y ∈ Y, Nm y.1 ∧ IsL w' y.1 y.2) ∧ IsRd w' g [] 0 ∧ Chg (fun k => k = g) W w' := fun h W g hg => by
    have h1 := frames_yes _ h
    have h2 : framesW (X.map Prod.fst) = _ := frames_ok _ h1
    have h3 := encs_len _ h1
    have hnm : ∀ m ∈ X.map Prod.fst, Nm m := fun m hm => by
      obtain ⟨x, hx1, rfl⟩ := List.mem_map.1 hm
      exact (hx x hx1).1
    have h4 := push_all _ (X.map Prod.fst) hnm (feed_frames _ (fun m hm => ⟨(hnm m hm).ok, h1 m hm⟩)) (by
      rw [List.length_map] at h3
      have := Nat.mul_le_mul_right 1048576 hn
      omega) W g hg
    rw [List.length_map] at h4
    rw [h2]
    exact h4
  obtain ⟨A, cc, rfl, hrl⟩ := hr
  generalize (framesW (X.map Prod.fst)).1 = s at *
  generalize (framesW (X.map Prod.fst)).2 = c at *
  have HF := Lib.hid hF
  have Herr := Lib.hid herr
  have HP := Lib.hid hP
  have Hr := Lib.hid hrl
  have Hx := Lib.hid hx
  have Hn := Lib.hid hn
  clear hF herr hP hrl hx
  go_enter Tryz.func14, Tryz.ntmps14
  go_wp2_with fail
  refine (awake_calls w).mono ?_
  rintro e w1 ⟨rfl, hc1⟩
  go_wp2_with fail
  refine (HF.out w1 hc1).mono ?_
  rintro e w2 ⟨rfl, hc2⟩
  have C2 := Lib.hid (hc1.trans hc2)
  clear hc1 hc2
  by_cases hc0 : c = 0
  case neg =>
    have q1 : ((c : Int) != 0) = true := by rw [bne_iff_ne]; omega
    have hs := Herr.out hc0
    subst hs
    clear hc0
    go_wp2_with fail
    go_ret
    exact ⟨rfl, C2.out⟩
  have HP2 := Lib.hid (HP.out hc0)
  subst hc0
  have Hrd := Lib.hid (show IsRd (w2.alloc (.cells #[S [], .int .i64 0] 54)) w2.heap.size [] 0 from Blk.new w2 _ _)
  go_wp2_with fail
  refine (HP2.out _ _ Hrd.out).mono ?_
  rintro e w3 ⟨B, cb, Y, rfl, hy, hrb, hyy, hrd, hc⟩
  have C3 := Lib.hid (C2.out.trans (((Chg.refl (fun _ => False) w2).alloc (.cells #[S [], .int .i64 0] 54)).andThen hc (fun k hk e => by omega)))
  have Hrd3 := Lib.hid hrd
  have Hy := Lib.hid hy
  have Hrb := Lib.hid hrb
  have Hyy := Lib.hid hyy
  clear hc hrd hy hrb hyy
  go_wp2_with fail
  refine (held_calls _ [] 0 w3 Hrd3.out).mono ?_
  rintro e w4 ⟨rfl, rfl⟩
  go_wp2_with fail
  refine (state_calls _ [] 0 w3 Hrd3.out).mono ?_
  rintro e w4 ⟨rfl, rfl⟩
  go_wp2_with fail

  go_loopw [7] (fun iv wr => ∃ k : Nat, k ≤ X.length ∧ iv = .int .i64 k ∧ Chg (fun _ => False) w3 wr) (fun iv _ => X.length - (intOf iv).toNat)
  case atStart => exact ⟨0, by omega, rfl, Chg.refl _ _⟩
  case round =>
    obtain ⟨k, hk, rfl, hcr⟩ := hrel
    by_cases hp : k < X.length
    case pos =>
      obtain ⟨⟨m, L⟩, hxk⟩ : ∃ x, X[k]? = some x := ⟨_, List.getElem?_eq_getElem hp⟩
      obtain ⟨⟨m2, K⟩, hyk⟩ : ∃ y, Y[k]? = some y := ⟨_, List.getElem?_eq_getElem (by have := congrArg List.length Hy.out; simp at this; omega)⟩
      obtain rfl : m2 = m := by
        have h := congrArg (fun l => l[k]?) Hy.out
        simp only [List.getElem?_map, hxk, hyk, Option.map_some] at h
        injection h
      obtain ⟨hnm, hil⟩ := Hx.out _ (List.mem_of_getElem? hxk)
      obtain ⟨_, hil2⟩ := Hyy.out _ (List.mem_of_getElem? hyk)
      have hcw := C3.out.trans hcr
      obtain ⟨b, off, rfl, hcell⟩ := RL.at_ (size := 84) (f := fun x : M × Ls => mc x.1 x.2) (fun x hm => by have := mc_len x.1 x.2 (Hx.out x hm).1.hd; simpa [mcells] using this) (Hr.out.chg hcw (fun _ _ _ _ h => h)) hxk
      obtain ⟨b2, off2, rfl, hcell2⟩ := RL.at_ (size := 84) (f := fun x : M × Ls => mc x.1 x.2) (fun x hm => by have := mc_len x.1 x.2 (Hyy.out x hm).1.hd; simpa [mcells] using this) (Hrb.out.chg hcr (fun _ _ _ _ h => h)) hyk
      have hld := ldM_at (w := wr.drew) hnm.hd hcell
      have hld2 := ldM_at (w := wr.drew) hnm.hd hcell2
      have HS := msame_calls m2 m2 K L wr.drew hnm hnm (hil2.chg hcr.drew (LOff.no _)) (hil.chg hcw.drew (LOff.no _))
      rw [decide_eq_true rfl] at HS
      have HS1 := Lib.hid HS
      have Hcr := Lib.hid hcr
      have hb0 : (0 : Int) ≤ (k : Int) := Int.natCast_nonneg k
      have hb1 : (k : Int) < (X.length : Int) := by omega
      clear HS hnm hil hil2 hcell hcell2 hcr hcw hxk hyk
      go_upto_region 13 with fail
      go_region_with (go_at_call 25; refine HS1.out.mono ?_; rintro e wt ⟨rfl, hct⟩)
      all_goals
        go_wp2_with fail
        go_roundw
        case rel => exact ⟨k + 1, by omega, by go_num, Hcr.out.drew.trans hct⟩
        case measure => simp [intOf]; omega
    obtain rfl : k = X.length := by omega
    go_wp2_with fail
    go_ret
    exact ⟨rfl, C3.out.trans hcr⟩
end Go.Proofs.YthkfcfkkamffpaaGreat
