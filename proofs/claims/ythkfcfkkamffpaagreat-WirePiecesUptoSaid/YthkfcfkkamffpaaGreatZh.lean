/-
  Layer 27: the walk of WirePieces.
-/
import Derived.Test.YthkfcfkkamffpaaGreatZg
import Derived.Test.YthkfcfkkamffpaaGreatOpen
import Derived.Test.YthkfcfkkamffpaaGreatYv
import Derived.Deep.DeepCutAuto
namespace Go.Proofs.YthkfcfkkamffpaaGreat
open Go.RowKit
set_option linter.unusedVariables false
set_option linter.unusedSimpArgs false
open Wm (M)
section
open Go.ChangeShapes Go.WideShapes Go.ChangeAt
variable {H : Type} {enc : TypeId × Value → H}
set_option maxRecDepth 100000 in
/-- a list of ints that came in -/
theorem opens_ints {W : World} {base : Nat} {v : Value} {d : DataW H} {p : List MemPlace} (hb : Rows.uptoBulk d ≤ 1048576) (hval : Value.okWide Tryz.prog W .any base 34 v)
    (h : DataW.Trod enc Tryz.prog W 0 (fun _ => true) true 34 v d p) : ∃ (X : List Int), LR W 1 v X.length (X.flatMap fun x => [.int .i64 x]) ∧ (∀ x ∈ X, I64 x) ∧ X.length ≤ 1048576 := by
  obtain ⟨a0, len, cap, rfl⟩ := okWide_slice Tryz.underlying34 hval
  obtain ⟨fuel, hf⟩ := h
  obtain ⟨X, v, hc, h1, h2, h3⟩ := vlist_at (fun x : Int => [.int .i64 x]) I64 Tryz.underlying34 (show Tryz.prog.cellsOf 3 = 1 by kernel_rfl) (by decide) (fun _ _ => rfl) (fun _ _ _ _ h => vint_cs Tryz.underlying3 h) hf
  simp [Value.cells] at hc
  subst hc
  exact ⟨X, h1, h2, Nat.le_trans h3 hb⟩
end
theorem push_new {s : List UInt8} {W w' : World} {g : Nat} {e : Ending} (he : PushE g [] 0 s W w' e) :
    ∃ A c, ∃ Y : List (M × Ls), e = .returned (.tuple #[.slice A Y.length c, .int .i64 ((feedW s).2.1 : Nat)]) ∧ Y.map Prod.fst = (feedW s).1 ∧ w'.ownsRow W.heap.size 36 84 (.slice A Y.length c) Y.length (Y.flatMap fun x => mc x.1 x.2) ∧ (∀ y ∈ Y, OwnL w' W.heap.size y.1 y.2) ∧ IsRd w' g (feedW s).2.2 (feedW s).2.1 ∧ Chg (fun k => k = g) W w' := by
  obtain ⟨v, Y, h1, h2, h3, h4, h5, h6⟩ := he
  have hw : pushW [] 0 s = ((feedW s).1, (feedW s).2.1, (feedW s).2.2, (feedW s).2.1) := by
    unfold pushW
    rw [if_neg (by omega), List.nil_append]
  rw [hw] at h1 h2 h5
  obtain ⟨A, c, rfl⟩ := own_form h3
  exact ⟨A, c, Y, h1, h2, h3, fun y hy => h4.mem y hy, h5, h6⟩
theorem rl_own {w : World} {b : Nat} {e : TypeId} {size n c : Nat} {A : Option Addr} {xs : List Value} (h : w.ownsRow b e size (.slice A n c) n xs) : RL w A size n xs := by
  obtain ⟨A', c', e, hr⟩ := lr_own h
  injection e with e1 e2 e3
  subst e1
  exact hr
attribute [local go_sem ↓] ld_msg st_msg
set_option maxHeartbeats 8000000 in
set_option maxRecDepth 100000 in
theorem wirePieces_walk (s : List UInt8) (cuts : List Int) (v : Value) (w : World) (hr : LR w 1 v cuts.length (cuts.flatMap fun x => [.int .i64 x])) (hx : ∀ x ∈ cuts, I64 x) (hs : s.length ≤ 1048576) (hn : cuts.length ≤ 1048576) :
    Calls Tryz.prog 11 #[S s, v] w fun e w' => e = .returned (.bool true) ∧ Chg (fun _ => False) w w' := by
  obtain ⟨i0, hi0, hz0, hz1, hz2⟩ := info_parts info_msgz
  obtain ⟨A, cc, rfl, hrl⟩ := hr
  have Hr := Lib.hid hrl
  have Hx := Lib.hid hx
  have Hs := Lib.hid hs
  clear hrl hx
  go_enter Tryz.func11, Tryz.ntmps11
  go_wp2_with fail
  refine (awake_calls w).mono ?_
  rintro e w1 ⟨rfl, hc1⟩
  have C1 := Lib.hid hc1
  clear hc1
  have hba : IsRd (w1.alloc (.cells #[S [], .int .i64 0] 54)) w1.heap.size [] 0 := Blk.new w1 _ _
  have hca : Chg (fun _ => False) (w1.alloc (.cells #[S [], .int .i64 0] 54)) ((w1.alloc (.cells #[S [], .int .i64 0] 54)).alloc (.cells #[S [], .int .i64 0] 54)) := (Chg.refl _ _).alloc _
  have Ha := Lib.hid (hba.chg hca (fun h => h))
  have Hb := Lib.hid (show IsRd ((w1.alloc (.cells #[S [], .int .i64 0] 54)).alloc (.cells #[S [], .int .i64 0] 54)) (w1.heap.size + 1) [] 0 by
    have := Blk.new (w1.alloc (.cells #[S [], .int .i64 0] 54)) 54 #[S [], .int .i64 0]
    simpa [IsRd] using this)
  have C2 := Lib.hid ((C1.out.alloc (.cells #[S [], .int .i64 0] 54)).alloc (.cells #[S [], .int .i64 0] 54))
  have hz : ((w1.alloc (.cells #[S [], .int .i64 0] 54)).alloc (.cells #[S [], .int .i64 0] 54)).heap.size = w1.heap.size + 2 := by simp
  have Hz := Lib.hid hz
  have hw1 := C1.out.size
  have Hw1 := Lib.hid hw1
  clear hba hca hz hw1
  go_wp2_with fail
  generalize (w1.alloc (.cells #[S [], .int .i64 0] 54)).alloc (.cells #[S [], .int .i64 0] 54) = w2 at *
  refine (push_calls _ [] s 0 _ Ha.out (by simp; omega)).mono ?_
  rintro e w3 hP
  obtain ⟨B, cb, Y, rfl, hy, hown, hyl, hrd, hc⟩ := push_new hP
  have hsz3 := hc.size
  have C3 := Lib.hid (C2.out.andThen hc (fun k hk e => by have := Hw1.out; omega))
  have Hb3 := Lib.hid (Hb.out.chg hc (by omega))
  have Ha3 := Lib.hid hrd
  have Hy := Lib.hid hy
  have Hown := Lib.hid hown
  have Hyl := Lib.hid hyl
  have Hsz3 := Lib.hid (show w1.heap.size + 2 ≤ w3.heap.size by have := Hz.out; omega)
  clear hP hy hown hyl hrd hc hsz3
  go_wp2_with fail
  go_loopw [9, 10, 11, 12] (fun mv gv av iv wr => ∃ (k t : Nat) (Z : List (M × Ls)), k ≤ cuts.length ∧ t ≤ s.length ∧ iv = .int .i64 k ∧ av = .int .i64 t ∧ gv = .int .i64 ((feedW (s.take t)).2.1 : Nat) ∧ Pc (w1.heap.size + 1) w3 (s.take t) mv Z wr) (fun _ _ _ iv _ => cuts.length - (intOf iv).toNat)
  case atStart => exact ⟨0, 0, [], by omega, by omega, rfl, rfl, by rw [List.take_zero, feed_short (by simp)]; rfl, by rw [List.take_zero]; exact Pc.zero Hb3.out⟩
  case round =>
    obtain ⟨k, t, Z, hk, ht, rfl, rfl, rfl, hpc⟩ := hrel
    have hcw : Chg (fun _ => False) w wr := C3.out.andThen hpc.chg (fun k hk e => by have := Hw1.out; omega)
    by_cases hp : k < cuts.length
    case pos =>
      obtain ⟨x, hxk⟩ : ∃ x, cuts[k]? = some x := ⟨_, List.getElem?_eq_getElem hp⟩
      obtain ⟨b, off, rfl, hcell⟩ := RL.at_ (size := 1) (f := fun x : Int => [Value.int .i64 x]) (fun _ _ => rfl) (Hr.out.chg hcw (fun _ _ _ _ h => h)) hxk
      have hcx := hcell 0 _ rfl
      have hcx : wr.cell? ⟨b, off + k, none⟩ = some (.int .i64 x) := by simpa using hcx
      obtain ⟨D, hD⟩ : ∃ D : Nat, (s.length : Int) - t + 1 = D := ⟨s.length - t + 1, by omega⟩
      have hD0 : ¬ (D : Int) = 0 := by omega
      have hDl : D ≤ 1048577 := by omega
      obtain ⟨r, hr, hr1, hr2⟩ : ∃ r : Int, x.tmod D = r ∧ -(D : Int) < r ∧ r < D := by
        have h1 := Int.tmod_lt_of_pos x (show (0 : Int) < D by omega)
        have h2 := Int.lt_tmod_of_pos x (show (0 : Int) < D by omega)
        exact ⟨_, rfl, h2, h1⟩
      have hxi := Hx.out _ (List.mem_of_getElem? hxk)
      have Hpc := Lib.hid hpc
      clear hcell hxk hpc hcw
      go_upto_if 43 with fail
      go_cut [13] (fun nv wx => ∃ q : Nat, t + q ≤ s.length ∧ nv = .int .i64 q ∧ wx = wr)
      case first =>
        rcases Int.lt_or_le r 0 with h | h
        · go_wp2_with fail
          go_meet
          exact ⟨(-r).toNat, by omega, by congr 1; omega, rfl⟩
        · go_wp2_with fail
          go_meet
          exact ⟨r.toNat, by omega, by congr 1; omega, rfl⟩
      case rest =>
      obtain ⟨q, hq, rfl, rfl⟩ := hcut
      obtain ⟨p, hp2⟩ : ∃ p, (s.drop t).take (t + q - t) = p := ⟨_, rfl⟩
      have hsl := run_slice_S (P := Tryz.prog) 9 Tryz.underlying9 s t (t + q) t ((t : Int) + q) rfl (by omega) (by omega) hq wc
      rw [hp2] at hsl
      have hcp : s.take t ++ p = s.take (t + q) := by
        rw [← hp2, Nat.add_sub_cancel_left, List.take_add]
      have hpl : p.length = q := by rw [← hp2]; simp; omega
      have hfl := feed_len _ (s.take t) (Nat.le_refl _)
      have HP := Lib.hid (push_calls _ (feedW (s.take t)).2.2 p (feedW (s.take t)).2.1 wc Hpc.out.rd (by rw [List.length_append]; rw [List.length_take] at hfl; omega))
      have Hcp := Lib.hid hcp
      clear hp2 hcp hfl hcx hr
      go_wp2_with fail
      refine HP.out.mono ?_
      rintro e wy hP
      obtain ⟨A2, cap2, X, rfl, hd⟩ := Hpc.out.push (by have := Hsz3.out; omega) hP
      have hdl := hd.len
      have hnx0 := hd.next
      rw [Hcp.out] at hdl hnx0
      have Hnx := Lib.hid hnx0
      clear hnx0
      have hXb : (Z.length + X.length) * 312 ≤ 140737488355328 := by rw [List.length_take] at hdl; omega
      have hXm : Z.length + X.length ≤ maxLen := by rw [List.length_take] at hdl; unfold maxLen; omega
      have hzc : (Value.agg Tryz.zeroCells36).cells.size = 84 := by rw [zero_msg]; exact mc_len _ _ (only_dg 0 0)
      have happ := fun (o : Oper) (ops : Array Oper) (rest : List Oper) (a : Act) (Q : Exit → Act → World → Prop) h1 h2 h3 h4 => wpList_append_any (P := Tryz.prog) (ops := ops) (rest := rest) (o := o) (a := a) (Q := Q) wy h1 (.tmp 56) (.tmp 57) 47 h2 w3.heap.size 36 i0 (.agg Tryz.zeroCells36) 84 312 Tryz.underlying47 hi0 hz0 hz1 hz2 hzc (by decide) u9 Z.length (Z.flatMap fun x => mc x.1 x.2) h3 hd.own wy.heap.size A2 X.length cap2 (X.flatMap fun x => mc x.1 x.2) h4 hd.rd hd.one hXm hXb hd.base
      have Happ := Lib.hid happ
      have Hd := Lib.hid hd
      rw [Hcp.out]
      clear happ hd hP hXb hXm hzc hdl hsl
      go_wp2_with (at_builtin; refine Happ.out _ _ _ _ _ rfl rfl rfl rfl ?_; intro v4 w4 hown4 hgr hat)
      have hnx := Hnx.out v4 w4 hown4 (Chg.of_grown hgr)
      go_roundw
      case rel => exact ⟨k + 1, t + q, Z ++ X, by omega, hq, by go_num, by go_num, rfl, hnx⟩
      case measure => simp [intOf]; omega
    obtain rfl : k = cuts.length := by omega
    obtain ⟨p, hp2⟩ : ∃ p, s.drop t = p := ⟨_, rfl⟩
    have hcp : s.take t ++ p = s := by rw [← hp2, List.take_append_drop]
    have ex2 : (⟨s.toArray⟩ : ByteArray).extract t s.length = ⟨p.toArray⟩ := by
      rw [extract_S, List.take_of_length_le (by simp), hp2]
    have hpl : p.length = s.length - t := by rw [← hp2, List.length_drop]
    have hfl := feed_len _ (s.take t) (Nat.le_refl _)
    have HP := Lib.hid (push_calls _ (feedW (s.take t)).2.2 p (feedW (s.take t)).2.1 wr hpc.rd (by rw [List.length_append]; rw [List.length_take] at hfl; omega))
    have Hcp := Lib.hid hcp
    have Hpc := Lib.hid hpc
    clear hpc hcw hp2 hcp hfl
    go_wp2_with fail
    refine HP.out.mono ?_
    rintro e wy hP
    obtain ⟨A2, cap2, X, rfl, hd⟩ := Hpc.out.push (by have := Hsz3.out; omega) hP
    have hdl := hd.len
    have hnx0 := hd.next
    rw [Hcp.out] at hdl hnx0
    have Hnx := Lib.hid hnx0
    clear hnx0
    have hXb : (Z.length + X.length) * 312 ≤ 140737488355328 := by omega
    have hXm : Z.length + X.length ≤ maxLen := by unfold maxLen; omega
    have hzc : (Value.agg Tryz.zeroCells36).cells.size = 84 := by rw [zero_msg]; exact mc_len _ _ (only_dg 0 0)
    have happ := fun (o : Oper) (ops : Array Oper) (rest : List Oper) (a : Act) (Q : Exit → Act → World → Prop) h1 h2 h3 h4 => wpList_append_any (P := Tryz.prog) (ops := ops) (rest := rest) (o := o) (a := a) (Q := Q) wy h1 (.tmp 70) (.tmp 71) 47 h2 w3.heap.size 36 i0 (.agg Tryz.zeroCells36) 84 312 Tryz.underlying47 hi0 hz0 hz1 hz2 hzc (by decide) u9 Z.length (Z.flatMap fun x => mc x.1 x.2) h3 hd.own wy.heap.size A2 X.length cap2 (X.flatMap fun x => mc x.1 x.2) h4 hd.rd hd.one hXm hXb hd.base
    have Happ := Lib.hid happ
    have Hd := Lib.hid hd
    rw [Hcp.out]
    clear happ hd hP hXb hXm hzc hdl ex2
    go_wp2_with (at_builtin; refine Happ.out _ _ _ _ _ rfl rfl rfl rfl ?_; intro v4 w4 hown4 hgr hat)
    have hnx := Hnx.out v4 w4 hown4 (Chg.of_grown hgr)
    have ra := Lib.hid (Ha3.out.chg hnx.chg (by omega))
    have rb := Lib.hid hnx.rd
    obtain ⟨Z2, hZ2⟩ : ∃ Z2, Z ++ X = Z2 := ⟨_, rfl⟩
    rw [hZ2] at hnx
    have hYZ : Y.map Prod.fst = Z2.map Prod.fst := Hy.out.trans hnx.told.symm
    have hl : Z2.length = Y.length := by have := congrArg List.length hYZ; simpa using this.symm
    obtain ⟨A4, c4, e4⟩ := own_form hnx.own
    rw [hl] at e4
    subst e4
    have C4 := Lib.hid (C3.out.andThen hnx.chg (fun k hk e => by have := Hw1.out; omega))
    have hrz : RL w4 A4 84 Z2.length (Z2.flatMap fun x => mc x.1 x.2) := rl_own (by have := hnx.own; rw [← hl] at this; exact this)
    have hry : RL w4 B 84 Y.length (Y.flatMap fun x => mc x.1 x.2) := rl_own (own_chg Hown.out hnx.chg (fun k hk e => by subst e; exact own_blk_ne Hown.out Hb3.out (by decide) hk))
    have hlz : ∀ x ∈ Z2, IsL w4 x.1 x.2 := fun x hx => (hnx.ls x hx).isl
    have hly : ∀ x ∈ Y, IsL w4 x.1 x.2 := fun x hx => ((Hyl.out x hx).keep hnx.chg (fun b hb e => by have := ((Hyl.out x hx).lt hb).1; have := Hz.out; omega)).isl
    have hnm : ∀ x ∈ Y, Nm x.1 := fun x hx => feed_nm _ s (Nat.le_refl _) _ (by rw [← Hy.out]; exact List.mem_map_of_mem hx)
    have hfs := feed_len _ s (Nat.le_refl _)
    have hYl : Y.length ≤ 1048576 := by have := congrArg List.length Hy.out; rw [List.length_map] at this; omega
    have Hrz := Lib.hid hrz
    have Hry := Lib.hid hry
    have Hlz := Lib.hid hlz
    have Hly := Lib.hid hly
    have Hnm := Lib.hid hnm
    have HYZ := Lib.hid hYZ
    have Hl := Lib.hid hl
    have hqh : decide (((feedW s).2.2.length : Int) ≤ (s.length : Int)) = true := decide_eq_true (by omega)
    have hqh' : decide ((feedW s).2.2.length ≤ s.length) = true := decide_eq_true (by omega)
    have Hfh := Lib.hid (show (feedW s).2.2.length ≤ s.length by omega)
    clear hnx hown4 hgr hat hZ2 hYZ hl hrz hry hlz hly hnm hfs
    refine (state_calls _ _ _ w4 ra.out).mono ?_
    rintro e w5 ⟨rfl, rfl⟩
    go_wp2_with fail
    refine (state_calls _ _ _ w4 rb.out).mono ?_
    rintro e w5 ⟨rfl, rfl⟩
    go_wp2_with fail
    refine (held_calls _ _ _ w4 ra.out).mono ?_
    rintro e w5 ⟨rfl, rfl⟩
    go_wp2_with fail
    refine (held_calls _ _ _ w4 rb.out).mono ?_
    rintro e w5 ⟨rfl, rfl⟩
    go_wp2_with fail
    go_loopw [18] (fun iv wr => ∃ k : Nat, k ≤ Y.length ∧ iv = .int .i64 k ∧ Chg (fun _ => False) w4 wr) (fun iv _ => Y.length - (intOf iv).toNat)
    case atStart => exact ⟨0, by omega, rfl, Chg.refl _ _⟩
    case round =>
      obtain ⟨k, hk, rfl, hcr⟩ := hrel
      by_cases hp : k < Y.length
      case pos =>
        obtain ⟨⟨m, K⟩, hyk⟩ : ∃ y, Y[k]? = some y := ⟨_, List.getElem?_eq_getElem hp⟩
        obtain ⟨⟨m2, L⟩, hzk⟩ : ∃ x, Z2[k]? = some x := ⟨_, List.getElem?_eq_getElem (by have := Hl.out; omega)⟩
        obtain rfl : m2 = m := by
          have h := congrArg (fun l => l[k]?) HYZ.out
          simp only [List.getElem?_map, hyk, hzk, Option.map_some] at h
          injection h with h
          exact h.symm
        have hnm := Hnm.out _ (List.mem_of_getElem? hyk)
        have hil2 := Hly.out _ (List.mem_of_getElem? hyk)
        have hil := Hlz.out _ (List.mem_of_getElem? hzk)
        have hnz : ∀ x ∈ Z2, (mc x.1 x.2).length = 84 := fun x hx => by
          have h1 : x.1 ∈ Y.map Prod.fst := by rw [HYZ.out]; exact List.mem_map_of_mem hx
          obtain ⟨y, hy, e⟩ := List.mem_map.1 h1
          have h2 := Hnm.out y hy
          rw [e] at h2
          have := mc_len x.1 x.2 h2.hd
          simpa [mcells] using this
        obtain ⟨b2, off2, rfl, hcell2⟩ := RL.at_ (size := 84) (f := fun x : M × Ls => mc x.1 x.2) (fun x hm => by have := mc_len x.1 x.2 (Hnm.out x hm).hd; simpa [mcells] using this) (Hry.out.chg hcr (fun _ _ _ _ h => h)) hyk
        obtain ⟨b, off, rfl, hcell⟩ := RL.at_ (size := 84) (f := fun x : M × Ls => mc x.1 x.2) hnz (Hrz.out.chg hcr (fun _ _ _ _ h => h)) hzk
        have hld := ldM_at (w := wr.drew) hnm.hd hcell
        have hld2 := ldM_at (w := wr.drew) hnm.hd hcell2
        have HS := msame_calls m2 m2 K L wr.drew hnm hnm (hil2.chg hcr.drew (LOff.no _)) (hil.chg hcr.drew (LOff.no _))
        rw [decide_eq_true rfl] at HS
        have HS1 := Lib.hid HS
        have Hcr := Lib.hid hcr
        have hb0 : (0 : Int) ≤ (k : Int) := Int.natCast_nonneg k
        have hb1 : (k : Int) < (Y.length : Int) := by omega
        clear HS hnm hil hil2 hnz hcell hcell2 hcr hyk hzk
        go_upto_region 24 with fail
        go_region_with (go_at_call 25; refine HS1.out.mono ?_; rintro e wt ⟨rfl, hct⟩)
        all_goals
          go_wp2_with fail
          go_roundw
          case rel => exact ⟨k + 1, by omega, by go_num, Hcr.out.drew.trans hct⟩
          case measure => simp [intOf]; omega
      obtain rfl : k = Y.length := by omega
      have ra2 := Lib.hid (ra.out.chg hcr (fun h => h))
      have Hcr := Lib.hid hcr
      clear hcr
      by_cases he : (feedW s).2.1 = 0
      · have he' : (((feedW s).2.1 : Nat) : Int) = 0 := by rw [he]; rfl
        go_wp2_with fail
        refine (held_calls _ _ _ wr ra2.out).mono ?_
        rintro e w9 ⟨rfl, rfl⟩
        go_wp2_with fail
        go_ret
        exact ⟨rfl, C4.out.trans Hcr.out⟩
      · have q1 : ((((feedW s).2.1 : Nat) : Int) != 0) = true := by rw [bne_iff_ne]; omega
        go_wp2_with fail
        go_ret
        exact ⟨rfl, C4.out.trans Hcr.out⟩
end Go.Proofs.YthkfcfkkamffpaaGreat
