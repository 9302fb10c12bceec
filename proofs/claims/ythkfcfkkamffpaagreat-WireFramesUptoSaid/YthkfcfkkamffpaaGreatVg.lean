/-
  Layer 27: the walk of WireFrames.
-/
import Derived.Test.YthkfcfkkamffpaaGreatVb
import Derived.Test.YthkfcfkkamffpaaGreatYr
import Derived.Test.YthkfcfkkamffpaaGreatVd
namespace Go.Proofs.YthkfcfkkamffpaaGreat
open Go.RowKit
set_option linter.unusedVariables false
set_option linter.unusedSimpArgs false
open Wm (M)
attribute [local go_sem ↓] ld_msg st_msg
set_option maxHeartbeats 8000000 in
set_option maxRecDepth 100000 in
theorem rframes_calls (X : List (M × Ls)) (v : Value) (w : World) (hr : LR w 84 v X.length (X.flatMap fun x => mc x.1 x.2)) (hx : ∀ x ∈ X, Nm x.1 ∧ IsL w x.1 x.2) (hn : X.length ≤ 1048576) :
    Calls Tryz.prog 32 #[v] w fun e w' => e = .returned (.tuple #[S (framesW (X.map Prod.fst)).1, .int .i64 ((framesW (X.map Prod.fst)).2 : Nat)]) ∧ Chg (fun _ => False) w w' := by
  obtain ⟨i0, hi0, hz0, hz1, hz2⟩ := info_parts info_u8
  obtain ⟨A, cc, rfl, hrl⟩ := hr
  have Hr := Lib.hid hrl
  have Hx := Lib.hid hx
  have Hn := Lib.hid hn
  have Hal := Lib.hid (fun h1 => frames_ok (X.map Prod.fst) h1)
  have Hbad := Lib.hid (frames_bad (X.map Prod.fst))
  have Hlen := Lib.hid (fun (k : Nat) (h : ∀ m ∈ (X.take k).map Prod.fst, (encW m).2 = 0) => encs_len _ h)
  generalize framesW (X.map Prod.fst) = R at *
  clear hrl hx
  go_enter Tryz.func32, Tryz.ntmps32
  go_wp2_with fail
  go_loopw [4, 5] (fun bv iv wr => ∃ (k : Nat), k ≤ X.length ∧ iv = .int .i64 k ∧ wr.ownsRow w.heap.size 5 1 bv (((X.take k).map Prod.fst).flatMap fun m => (encW m).1).length (bys (((X.take k).map Prod.fst).flatMap fun m => (encW m).1)) ∧ Chg (fun _ => False) w wr ∧ ∀ m ∈ (X.take k).map Prod.fst, (encW m).2 = 0) (fun _ iv _ => X.length - (intOf iv).toNat)
  case atStart => exact ⟨0, by omega, rfl, World.ownsRow_nil _ _ _ _, Chg.refl _ _, fun m hm => by simp at hm⟩
  case round =>
    obtain ⟨k, hk, rfl, hown, hchg, hok⟩ := hrel
    by_cases hp : k < X.length
    case pos =>
      obtain ⟨⟨m, L⟩, hxk⟩ : ∃ x, X[k]? = some x := ⟨_, List.getElem?_eq_getElem hp⟩
      obtain ⟨hnm, hil⟩ := Hx.out _ (List.mem_of_getElem? hxk)
      have hmap : (X.map Prod.fst)[k]? = some m := by rw [List.getElem?_map, hxk]; rfl
      obtain ⟨b, off, rfl, hcell⟩ := RL.at_ (size := 84) (f := fun x : M × Ls => mc x.1 x.2) (fun x hm => by have := mc_len x.1 x.2 (Hx.out x hm).1.hd; simpa [mcells] using this) (Hr.out.chg hchg (fun _ _ _ _ h => h)) hxk
      have hld := ldM_at hnm.hd hcell
      have HE := rencode_calls m L wr hnm (hil.chg hchg (LOff.no _))
      unfold EncE at HE
      have HE := Lib.hid HE
      have hroom := Hlen.out k hok
      have Hchg := Lib.hid hchg
      have Hown := Lib.hid hown
      have Hok := Lib.hid hok
      have hlen1 : (encW m).2 = 0 → (encW m).1.length ≤ 1048576 := fun h => (enc_len (m := m) (s := (encW m).1) (by rw [← h])).2
      have hbad : (encW m).2 ≠ 0 → R = ([], (encW m).2) := fun h => Hbad.out k m hmap (by rw [← List.map_take]; exact Hok.out) h
      have hstep : ((X.take (k + 1)).map Prod.fst).flatMap (fun m => (encW m).1) = (((X.take k).map Prod.fst).flatMap fun m => (encW m).1) ++ (encW m).1 := by
        rw [List.take_add_one, hxk]
        simp
      have hok2 : (encW m).2 = 0 → ∀ x ∈ (X.take (k + 1)).map Prod.fst, (encW x).2 = 0 := fun h x hx => by
        rw [List.take_add_one, hxk] at hx
        simp only [Option.toList_some, List.map_append, List.map_cons, List.map_nil, List.mem_append, List.mem_singleton] at hx
        rcases hx with hx | hx
        · exact Hok.out x hx
        · subst hx; exact h
      have hroom2 : (((X.take k).map Prod.fst).flatMap fun m => (encW m).1).length ≤ 1048576 * 1048576 := by
        refine Nat.le_trans hroom (Nat.mul_le_mul_right _ ?_)
        rw [List.length_map, List.length_take]; omega
      have Hbad2 := Lib.hid hbad
      have Hstep := Lib.hid hstep
      have Hok2 := Lib.hid hok2
      have Hlen1 := Lib.hid hlen1
      have Hroom := Lib.hid hroom2
      clear hbad hstep hok2 hlen1 hroom hroom2 hnm hil hcell hchg hok hxk hmap hown
      obtain ⟨c, hc⟩ : ∃ c, (encW m).2 = c := ⟨_, rfl⟩
      obtain ⟨t, ht⟩ : ∃ t, (encW m).1 = t := ⟨_, rfl⟩
      rw [hc, ht] at HE
      rw [hc] at Hbad2 Hok2 Hlen1
      rw [ht] at Hstep Hlen1
      clear hc ht
      obtain ⟨ys, hys⟩ : ∃ ys, (((X.take k).map Prod.fst).flatMap fun m => (encW m).1) = ys := ⟨_, rfl⟩
      rw [hys] at Hown Hroom Hstep
      clear hys
      go_wp2_with fail
      refine HE.out.mono ?_
      rintro e wt ⟨rfl, hct⟩
      have Cw := Lib.hid (Hchg.out.trans hct)
      have Hown2 := Lib.hid (own_chg Hown.out hct (fun _ _ h => h))
      clear hct hld
      by_cases hc0 : c = 0
      case neg =>
        have q1 : ((c : Int) != 0) = true := by rw [bne_iff_ne]; omega
        have hR := Lib.hid (Hbad2.out hc0)
        clear hc0
        go_wp2_with fail
        go_ret2
        exact ⟨by rw [hR.out]; rfl, Cw.out⟩
      have ht1 := Hlen1.out hc0
      have Hok3 := Lib.hid (Hok2.out hc0)
      subst hc0
      have hts : (⟨t.toArray⟩ : ByteArray).size = t.length := by simp [ByteArray.size]
      have hrm := Hroom.out
      have happ := fun (o : Oper) (ops : Array Oper) (rest : List Oper) (a : Act) (Q : Exit → Act → World → Prop) h1 h2 h3 h4 => wpList_append_string_at (P := Tryz.prog) (ops := ops) (rest := rest) (o := o) (a := a) (Q := Q) wt h1 (.tmp 25) (.tmp 26) 49 9 h2 w.heap.size 5 i0 Tryz.underlying49 Tryz.underlying9 hi0 hz0 hz1 hz2 _ ys.length (bys ys) h3 Hown2.out ⟨t.toArray⟩ h4 (by rw [hts]; unfold maxLen; omega) (by rw [hts]; omega) (Cw.out.size)
      have Happ := Lib.hid happ
      clear happ ht1 hrm hts
      go_wp2_with (at_builtin; refine Happ.out _ _ _ _ _ rfl rfl rfl rfl ?_; intro v4 w4 hown4 hgr hat)
      go_roundw
      case rel =>
        refine ⟨k + 1, by omega, by go_num, ?_, Cw.out.grown hgr (fun b hb => .inr (Hown2.out.lt b hb).1), Hok3.out⟩
        rw [Hstep.out, List.length_append, bys_append]
        have e : Lib.strCells ⟨t.toArray⟩ = bys t := strCells_S t
        rw [e] at hown4
        simpa [ByteArray.size] using hown4
      case measure => simp [intOf]; omega
    obtain rfl : k = X.length := by omega
    rw [List.take_length] at hown hok
    have hal := Hal.out hok
    have hcv := run_convert_own (P := Tryz.prog) wr 49 9 5 Tryz.underlying49 Tryz.underlying5 Tryz.underlying9 hown
    obtain ⟨ys, hys⟩ : ∃ ys, ((X.map Prod.fst).flatMap fun m => (encW m).1) = ys := ⟨_, rfl⟩
    rw [hys] at hcv hal
    have HR := Lib.hid hal
    have Hchg := Lib.hid hchg
    clear hown hok hal hchg hys
    go_wp2_with fail
    go_ret2
    exact ⟨by rw [HR.out]; rfl, Hchg.out⟩
end Go.Proofs.YthkfcfkkamffpaaGreat
namespace Go.Proofs.YthkfcfkkamffpaaGreat
open Go.RowKit
set_option linter.unusedVariables false
set_option linter.unusedSimpArgs false
open Wm (M)
theorem lr_owned {w : World} {b : Nat} {e : TypeId} {size n : Nat} {v : Value} {xs : List Value} (ho : w.ownsRow b e size v n xs) : LR w size v n xs := by
  obtain ⟨hl, ho⟩ := ho
  rcases ho with ⟨hv, hn⟩ | ⟨g, cap, cur, hv, hg, hb, hc, hx⟩
  · subst hn
    exact ⟨none, 0, hv, by simpa using hl, fun h => absurd h (Nat.lt_irrefl 0)⟩
  · obtain ⟨h1, h2, h3⟩ := hx
    refine ⟨some ⟨g, 0, none⟩, cap, hv, hl, fun _ => ⟨g, 0, rfl, fun j u hu => ?_⟩⟩
    rw [Nat.zero_add, cell_of_row w g j cur e (0, 0) hb]
    rw [← h3, List.getElem?_take] at hu
    split at hu
    · simpa using hu
    · cases hu
theorem R70.keep {Q : Nat → Prop} {w w' : World} {base size n : Nat} {e : TypeId} {v : Value} {xs : List Value} (h : R70 w base e size v n xs) (hc : Chg Q w w') (hq : ∀ k, v.ownBlock = some k → ¬ Q k) : R70 w' base e size v n xs := by
  obtain ⟨g, c, h1, h2⟩ := h
  exact ⟨g, c, h1, own_chg h2 hc (fun k hk => hq k (by rw [h1]; exact hk))⟩
theorem LentL.keep {Q : Nat → Prop} {w w' : World} {base : Nat} {m : M} {L : Ls} (h : LentL w base m L) (hc : Chg Q w w') (hq : ∀ b, LB L b → ¬ Q b) : LentL w' base m L :=
  ⟨h.t.keep hc (fun b e => hq b (.inl e)), h.s.keep hc (fun b e => hq b (.inr (.inl e))), h.p.keep hc (fun b e => hq b (.inr (.inr (.inl e)))), h.y.keep hc (fun b e => hq b (.inr (.inr (.inr e))))⟩
theorem R70.ne {w : World} {base base' size n n' : Nat} {e : TypeId} {v v' : Value} {xs xs' : List Value} (h : R70 w base e size v n xs) (hv : w.ownsRow base' 36 84 v' n' xs') (hne : e ≠ 36) {b : Nat} (hb : v.ownBlock = some b) : v'.ownBlock ≠ some b := by
  obtain ⟨g, c, rfl, h2⟩ := h
  exact own_type_ne h2 hv hne hb
theorem LentL.ne {w : World} {base base' n : Nat} {m : M} {L : Ls} {v : Value} {xs : List Value} (h : LentL w base m L) (hv : w.ownsRow base' 36 84 v n xs) {b : Nat} (hb : LB L b) : v.ownBlock ≠ some b := by
  rcases hb with e | e | e | e
  · exact h.t.ne hv (by decide) e
  · exact h.s.ne hv (by decide) e
  · exact h.p.ne hv (by decide) e
  · exact h.y.ne hv (by decide) e
/-- an append to a list of messages of one's own -/
theorem app_msg {w : World} {base B c : Nat} {v : Value} {T X Z : List (M × Ls)} {A : Option Addr} (hown : w.ownsRow base 36 84 v T.length (T.flatMap fun x => mc x.1 x.2)) (hr : Reads w B 84 A X.length (X.flatMap fun x => mc x.1 x.2))
    (hs : ∀ x ∈ X, Slc x.2) (hZ : Z = T ++ X) (hn : T.length + X.length ≤ 4194304) (hb : base ≤ w.heap.size) {ops : Array Oper} {rest : List Oper} {o : Oper} {a : Act} {Q : Exit → Act → World → Prop} (s x : Operand) (h1 : o.guard = none)
    (h2 : o.op = .call { callee := .builtin .append, args := #[s, x], argTypes := #[47, 47] }) (h3 : a.eval s = v) (h4 : a.eval x = .slice A X.length c)
    (h : ∀ v4 w4, w4.ownsRow base 36 84 v4 Z.length (Z.flatMap fun x => mc x.1 x.2) → w.grownBy w4 v.ownBlock → (v4.ownBlock = v.ownBlock ∨ v4.ownBlock = some w.heap.size) → wpList Tryz.prog ops Q rest (a.put o.dst v4) w4) : wpList Tryz.prog ops Q (o :: rest) a w := by
  obtain ⟨i0, hi0, hz0, hz1, hz2⟩ := info_parts info_msgz
  have hzc : (Value.agg Tryz.zeroCells36).cells.size = 84 := by rw [zero_msg]; exact mc_len _ _ (only_dg 0 0)
  refine wpList_append_any (P := Tryz.prog) w h1 s x 47 h2 base 36 i0 (.agg Tryz.zeroCells36) 84 312 Tryz.underlying47 hi0 hz0 hz1 hz2 hzc (by decide) v T.length (T.flatMap fun x => mc x.1 x.2) h3 hown B A X.length c (X.flatMap fun x => mc x.1 x.2) h4 hr ?_ (by unfold maxLen; omega) (by omega) hb ?_
  · intro u hu
    obtain ⟨x, hx, hu⟩ := List.mem_flatMap.1 hu
    have := mcells_one x.1 x.2 (hs x hx)
    rw [Array.all_eq_true_iff_forall_mem] at this
    exact this u (by simpa [mcells] using hu)
  intro v4 w4 a1 a2 a3
  refine h v4 w4 ?_ a2 a3
  rw [hZ, List.length_append, List.flatMap_append]
  exact a1
theorem Reads.msg1 (w : World) (m : M) (L : Ls) (hd : Dg m) : Reads (w.alloc (.cells (mcells m L) 36)) (w.heap.size + 1) 84 (some ⟨w.heap.size, 0, none⟩) [(m, L)].length ([(m, L)].flatMap fun x => mc x.1 x.2) := by
  have := Reads.new_ w 36 (mcells m L)
  rw [mc_len m L hd] at this
  simpa [mcells] using this
attribute [local go_sem ↓] ld_msg st_msg bs_msgs
set_option maxHeartbeats 8000000 in
set_option maxRecDepth 100000 in
theorem wireFrames_walk (X : List (M × Ls)) (v : Value) (w : World) (hr : LR w 84 v X.length (X.flatMap fun x => mc x.1 x.2)) (hx : ∀ x ∈ X, Nm x.1 ∧ IsL w x.1 x.2) (hn : X.length ≤ 1048576) :
    Calls Tryz.prog 13 #[v] w fun e w' => e = .returned (.bool true) ∧ Chg (fun _ => False) w w' := by
  have HR := Lib.hid (rframes_calls X v w hr hx hn)
  have HFr := Lib.hid (fun (Z : List (M × Ls)) (v2 : Value) (w2 : World) (h1 : Z.map Prod.fst = X.map Prod.fst) (h2 : LR w2 84 v2 Z.length (Z.flatMap fun x => mc x.1 x.2)) (h3 : ∀ x ∈ Z, Nm x.1 ∧ IsL w2 x.1 x.2) => (show Calls Tryz.prog 33 #[v2] w2 fun e w' => e = .returned (.tuple #[S (framesW (X.map Prod.fst)).1, .int .i64 ((framesW (X.map Prod.fst)).2 : Nat)]) ∧ Chg (fun _ => False) w2 w' by
    have := frames_calls Z v2 w2 h2 h3 (by have := congrArg List.length h1; simp at this; omega)
    rw [h1] at this
    exact this))
  obtain ⟨t, ht⟩ : ∃ t, (framesW (X.map Prod.fst)).1 = t := ⟨_, rfl⟩
  obtain ⟨c, hcq⟩ : ∃ c, (framesW (X.map Prod.fst)).2 = c := ⟨_, rfl⟩
  rw [ht, hcq] at HR
  rw [ht, hcq] at HFr
  obtain ⟨A, cc, rfl, hrl⟩ := hr
  have Hr := Lib.hid hrl
  have Hx := Lib.hid hx
  clear hrl hx ht hcq
  go_enter Tryz.func13, Tryz.ntmps13
  go_wp2_with fail
  refine HR.out.mono ?_
  rintro e w1 ⟨rfl, h1⟩
  have C1 := Lib.hid h1
  clear h1
  go_wp2_with fail
  go_loopw [5, 6] (fun lv iv wr => ∃ (k : Nat) (Z : List (M × Ls)), k ≤ X.length ∧ iv = .int .i64 k ∧ Z.map Prod.fst = (X.take k).map Prod.fst ∧ wr.ownsRow w.heap.size 36 84 lv Z.length (Z.flatMap fun x => mc x.1 x.2) ∧ (∀ z ∈ Z, LentL wr w.heap.size z.1 z.2) ∧ Chg (fun _ => False) w wr) (fun _ iv _ => X.length - (intOf iv).toNat)
  case atStart => exact ⟨0, [], by omega, rfl, by simp, World.ownsRow_nil _ _ _ _, fun z hz => by simp at hz, C1.out⟩
  case round =>
    obtain ⟨k, Z, hk, rfl, hZ, hown, hlz, hc⟩ := hrel
    have hzl : Z.length = k := by have := congrArg List.length hZ; simp at this; omega
    by_cases hp : k < X.length
    case pos =>
      obtain ⟨⟨m, L⟩, hxk⟩ : ∃ x, X[k]? = some x := ⟨_, List.getElem?_eq_getElem hp⟩
      obtain ⟨hnm, hil⟩ := Hx.out _ (List.mem_of_getElem? hxk)
      obtain ⟨b, off, rfl, hcell⟩ := RL.at_ (size := 84) (f := fun x : M × Ls => mc x.1 x.2) (fun x hm => by have := mc_len x.1 x.2 (Hx.out x hm).1.hd; simpa [mcells] using this) (Hr.out.chg hc (fun _ _ _ _ h => h)) hxk
      have hld := ldM_at hnm.hd hcell
      have HLt := Lib.hid (lent_calls m L wr hnm (hil.chg hc (LOff.no _)))
      have Hc := Lib.hid hc
      have Hown := Lib.hid hown
      have Hlz := Lib.hid hlz
      have Hnm := Lib.hid hnm
      have HZ := Lib.hid (show (Z.map Prod.fst) ++ [m] = (X.take (k + 1)).map Prod.fst by rw [List.take_add_one, hxk, hZ]; simp)
      have Hzl := Lib.hid hzl
      clear hc hown hlz hnm hil hcell hxk hZ hzl
      go_wp2_with fail
      refine HLt.out.mono ?_
      rintro e w2 ⟨L2, rfl, hlt, h2⟩
      have hbs := bs_msg m L2 Hnm.out.hd w2
      have C2 := Lib.hid (Hc.out.trans h2)
      have hl2 := hlt.low Hc.out.size
      have ho2 := (own_chg Hown.out h2 (fun _ _ h => h)).alloc (.cells (mcells m L2) 36)
      have hc2 : Chg (fun _ => False) w2 (w2.alloc (.cells (mcells m L2) 36)) := (Chg.refl _ w2).alloc _
      obtain ⟨Z2, hZ2⟩ : ∃ Z2, Z2 = Z ++ [(m, L2)] := ⟨_, rfl⟩
      have hal : ∀ z ∈ Z2, LentL (w2.alloc (.cells (mcells m L2) 36)) w.heap.size z.1 z.2 := fun z hz => by
        rw [hZ2] at hz
        rcases List.mem_append.1 hz with hz | hz
        · exact (Hlz.out z hz).keep (h2.trans hc2) (fun _ _ h => h)
        · rw [List.mem_singleton] at hz; subst hz; exact hl2.keep hc2 (fun _ _ h => h)
      have ha := Lib.hid (fun (ops : Array Oper) (rest : List Oper) (o : Oper) (a : Act) (Q : Exit → Act → World → Prop) (s x : Operand) h1 h2 h3 h4 => app_msg (ops := ops) (rest := rest) (o := o) (a := a) (Q := Q) (c := 1) (Z := Z2) ho2 (Reads.msg1 w2 m L2 Hnm.out.hd) (fun x hx => by rw [List.mem_singleton] at hx; subst hx; exact (hlt.isl Hnm.out).slc) hZ2 (by have := Hzl.out; simp; omega) (Nat.le_trans C2.out.size hc2.size) s x h1 h2 h3 h4)
      have Hal := Lib.hid hal
      have Ho2 := Lib.hid ho2
      have Hc2 := Lib.hid hc2
      have HZ2 := Lib.hid (show Z2.map Prod.fst = (X.take (k + 1)).map Prod.fst by rw [hZ2, List.map_append]; exact HZ.out)
      clear hlt h2 hl2 ho2 hc2 hal hld hZ2
      go_wp2_with (at_builtin; refine ha.out _ _ _ _ _ (.tmp 21) (.tmp 27) rfl rfl rfl rfl ?_; intro v4 w4 hown4 hgr hat; clear hat)
      go_roundw
      case rel =>
        exact ⟨k + 1, Z2, by omega, by go_num, HZ2.out, hown4, fun z hz => (Hal.out z hz).keep (Chg.of_grown hgr) (fun b hb e => (Hal.out z hz).ne Ho2.out hb e), ((C2.out.trans Hc2.out).grown hgr (fun k hk => .inr (Ho2.out.lt k hk).1))⟩
      case measure => simp [intOf]; omega
    obtain rfl : k = X.length := by omega
    rw [List.take_length] at hZ
    have hnz : ∀ x ∈ Z, Nm x.1 := fun x hx => by
      have h1 : x.1 ∈ X.map Prod.fst := by rw [← hZ]; exact List.mem_map_of_mem hx
      obtain ⟨y, hy, e⟩ := List.mem_map.1 h1
      rw [← e]; exact (Hx.out y hy).1
    have HF2 := Lib.hid (HFr.out Z _ wr hZ (lr_owned hown) (fun x hx => ⟨hnz x hx, (hlz x hx).isl (hnz x hx)⟩))
    obtain ⟨A2, c2, rfl⟩ := own_form hown
    have hrz := lr_owned hown
    obtain ⟨A2', c2', e2, hrz⟩ := hrz
    injection e2 with e2a e2b e2c
    subst e2a
    have Hrz := Lib.hid hrz
    have Hlz := Lib.hid hlz
    have Hnz := Lib.hid hnz
    have HZ := Lib.hid hZ
    have Hc := Lib.hid hc
    have Hzl := Lib.hid hzl
    clear hrz hlz hnz hZ hc hown e2b e2c hzl
    go_wp2_with fail
    refine HF2.out.mono ?_
    rintro e w3 ⟨rfl, h3⟩
    have C3 := Lib.hid h3
    clear h3
    go_wp2_with fail
    refine (awake_calls w3).mono ?_
    rintro e w4 ⟨rfl, h4⟩
    have C4 := Lib.hid (C3.out.trans h4)
    clear h4
    go_wp2_with fail
    go_loopw [9] (fun iv wx => ∃ k : Nat, k ≤ X.length ∧ iv = .int .i64 k ∧ Chg (fun _ => False) wr wx) (fun iv _ => X.length - (intOf iv).toNat)
    case atStart => exact ⟨0, by omega, rfl, C4.out⟩
    case round =>
      obtain ⟨k, hk, rfl, hcx⟩ := hrel
      by_cases hp : k < X.length
      case pos =>
        obtain ⟨⟨m, L⟩, hxk⟩ : ∃ x, X[k]? = some x := ⟨_, List.getElem?_eq_getElem hp⟩
        obtain ⟨⟨m2, L2⟩, hzk⟩ : ∃ x, Z[k]? = some x := ⟨_, List.getElem?_eq_getElem (by have := Hzl.out; omega)⟩
        obtain rfl : m2 = m := by
          have h := congrArg (fun l => l[k]?) HZ.out
          simp only [List.getElem?_map, hxk, hzk, Option.map_some] at h
          injection h
        obtain ⟨hnm, hil⟩ := Hx.out _ (List.mem_of_getElem? hxk)
        have hlt := Hlz.out _ (List.mem_of_getElem? hzk)
        obtain ⟨b, off, rfl, hcell⟩ := RL.at_ (size := 84) (f := fun x : M × Ls => mc x.1 x.2) (fun x hm => by have := mc_len x.1 x.2 (Hx.out x hm).1.hd; simpa [mcells] using this) (Hr.out.chg (Hc.out.trans hcx) (fun _ _ _ _ h => h)) hxk
        obtain ⟨b2, off2, rfl, hcell2⟩ := RL.at_ (size := 84) (f := fun x : M × Ls => mc x.1 x.2) (fun x hm => by have := mc_len x.1 x.2 (Hnz.out x hm).hd; simpa [mcells] using this) (Hrz.out.chg hcx (fun _ _ _ _ h => h)) hzk
        have hld := ldM_at (w := wr.drew) hnm.hd hcell
        have hld2 := ldM_at (w := wr.drew) hnm.hd hcell2
        have HK := Lib.hid (kept_calls m2 L2 L w.heap.size wr.drew hnm (hlt.keep hcx.drew (fun _ _ h => h)) (hil.chg (Hc.out.trans hcx.drew) (LOff.no _)))
        have Hcx := Lib.hid hcx
        have hb0 : (0 : Int) ≤ (k : Int) := Int.natCast_nonneg k
        have hb1 : (k : Int) < (X.length : Int) := by omega
        have hb2 : (k : Int) < (Z.length : Int) := by have := Hzl.out; omega
        clear hnm hil hlt hcell hcell2 hcx hxk hzk
        go_upto_region 13 with fail
        go_region_with (go_at_call 19; refine HK.out.mono ?_; rintro e wt ⟨rfl, hct⟩)
        all_goals
          go_wp2_with fail
          go_roundw
          case rel => exact ⟨k + 1, by omega, by go_num, Hcx.out.drew.trans hct⟩
          case measure => simp [intOf]; omega
      obtain rfl : k = X.length := by omega
      have Cz := Lib.hid (Hc.out.trans hcx)
      clear hcx
      go_wp2_with fail
      go_ret
      exact ⟨rfl, Cz.out⟩
end Go.Proofs.YthkfcfkkamffpaaGreat
