/-
  Layer 27: may, of a kind that is.
-/
import Derived.Test.YthkfcfkkamffpaaGreatYi
import Derived.Test.YthkfcfkkamffpaaGreatZa
namespace Go.Proofs.YthkfcfkkamffpaaGreat
open Go.RowKit
set_option linter.unusedVariables false
set_option linter.unusedSimpArgs false
open Wm (M)
/-- the fields so far, of a message -/
def selN (Q : List (Wm.Fd × List Nat)) (n m : M) : M := Q.foldl (fun n x => Wm.put n m x.1) n
def selL (Q : List (Wm.Fd × List Nat)) (K L : Ls) : Ls := Q.foldl (fun K x => putL K L x.1) K
theorem selN_snoc {Q : List (Wm.Fd × List Nat)} {k : Nat} {x : Wm.Fd × List Nat} (h : Q[k]? = some x) (n m : M) : selN (Q.take (k + 1)) n m = Wm.put (selN (Q.take k) n m) m x.1 := by
  unfold selN; rw [List.take_add_one, h]; simp [List.foldl_append]
theorem selL_snoc {Q : List (Wm.Fd × List Nat)} {k : Nat} {x : Wm.Fd × List Nat} (h : Q[k]? = some x) (K L : Ls) : selL (Q.take (k + 1)) K L = putL (selL (Q.take k) K L) L x.1 := by
  unfold selL; rw [List.take_add_one, h]; simp [List.foldl_append]
/-- a message made of two: its numbers, its lists -/
theorem put_nm {n m : M} (hn : Nm n) (hm : Nm m) (c : Wm.Fd) : Nm (Wm.put n m c) := by
  obtain ⟨⟨a1, a2⟩, a3, a4, a5, a6, a7, a8, a9, a10, a11, a12, a13, a14, a15, a16, a17, a18, a19⟩ := hn
  obtain ⟨⟨b1, b2⟩, b3, b4, b5, b6, b7, b8, b9, b10, b11, b12, b13, b14, b15, b16, b17, b18, b19⟩ := hm
  cases c <;> exact ⟨⟨by assumption, by assumption⟩, by assumption, by assumption, by assumption, by assumption, by assumption, by assumption, by assumption, by assumption, by assumption, by assumption, by assumption, by assumption, by assumption, by assumption, by assumption, by assumption, by assumption⟩
theorem put_isl {w : World} {n m : M} {K L : Ls} (hn : IsL w n K) (hm : IsL w m L) (c : Wm.Fd) : IsL w (Wm.put n m c) (putL K L c) := by
  obtain ⟨a1, a2, a3, a4⟩ := hn
  obtain ⟨b1, b2, b3, b4⟩ := hm
  cases c <;> exact ⟨by assumption, by assumption, by assumption, by assumption⟩
theorem only_nm {k i : Nat} (hk : k < 256) (hi : i < 4294967296) : Nm (Wm.only k i) := by
  refine ⟨only_dg k i, hk, hi, ⟨?_, ?_⟩, ⟨?_, ?_⟩, ?_, ?_, ?_, ?_, ?_, ?_, ?_, ?_, ?_, ?_, ?_, ?_, ?_⟩ <;> simp [Wm.only, U64]
theorem only_isl (w : World) (k i : Nat) : IsL w (Wm.only k i) nolist :=
  ⟨⟨none, 0, rfl, rfl, fun h => absurd h (Nat.lt_irrefl 0)⟩, ⟨none, 0, rfl, rfl, fun h => absurd h (Nat.lt_irrefl 0)⟩, ⟨none, 0, rfl, rfl, fun h => absurd h (Nat.lt_irrefl 0)⟩, ⟨none, 0, rfl, rfl, fun h => absurd h (Nat.lt_irrefl 0)⟩⟩
theorem sel_nm {m : M} (hm : Nm m) : ∀ (Q : List (Wm.Fd × List Nat)) {n : M}, Nm n → Nm (selN Q n m)
  | [], _, h => h
  | x :: Q, _, h => sel_nm hm Q (put_nm h hm x.1)
theorem sel_isl {w : World} {m : M} {L : Ls} (hm : IsL w m L) : ∀ (Q : List (Wm.Fd × List Nat)) {n : M} {K : Ls}, IsL w n K → IsL w (selN Q n m) (selL Q K L)
  | [], _, _, h => h
  | x :: Q, _, _, h => sel_isl hm Q (put_isl h hm x.1)
theorem sel_fold (Q : List (Wm.Fd × List Nat)) (n m : M) : selN Q n m = (Q.map Prod.fst).foldl (fun n c => Wm.put n m c) n := by
  unfold selN; rw [List.foldl_map]
theorem pcells_at (Q : List (Wm.Fd × List Nat)) {w : World} {v : Value} (h : LR w 4 v Q.length (Q.flatMap pcells)) {k : Nat} {x : Wm.Fd × List Nat} (hx : Q[k]? = some x) :
    ∃ b off c, v = .slice (some ⟨b, off, none⟩) Q.length c ∧ ∀ j u, (pcells x)[j]? = some u → w.cell? ⟨b, off + k * 4 + j, none⟩ = some u := by
  obtain ⟨A, c, rfl, hr⟩ := h
  obtain ⟨b, off, rfl, hc⟩ := RL.at_ (size := 4) (f := pcells) (fun x hm => rfl) hr hx
  exact ⟨b, off, c, rfl, hc⟩
theorem IsPs.below {w : World} {base : Nat} {Q : List (Wm.Fd × List Nat)} {v : Value} (h : IsPs w base Q v) {x : Wm.Fd × List Nat} (hx : x ∈ Q) : ∀ i, i < (boxV x.1).length → x.2.getD i 0 < w.heap.size := fun i hi =>
  World.block_lt_of_cell? _ _ ((h.part x hx).1 i _ (List.getElem?_eq_getElem hi))
theorem IsM.keep {w w1 wx : World} {m : M} {L : Ls} (b0 : IsM (w.alloc (.cells (mcells m L) 36)) w.heap.size m L) (hc : Chg (fun _ => False) (w.alloc (.cells (mcells m L) 36)) w1) (hx : Chg (fun _ => False) w1 wx) : IsM wx w.heap.size m L :=
  b0.chg (hc.trans hx) (fun h => h)
theorem IsL.keep {w w1 wx : World} {m : M} {L : Ls} (hl : IsL w m L) (hc : Chg (fun _ => False) (w.alloc (.cells (mcells m L) 36)) w1) (hx : Chg (fun _ => False) w1 wx) : IsL wx m L :=
  hl.chg ((((Chg.refl (fun _ => False) w).alloc _).trans hc).trans hx) (LOff.no _)
theorem mayF_no {m : M} {Q : List (Wm.Fd × List Nat)} {l : List Wm.Fd} (hQ : Q.map Prod.fst = l) {c : Wm.Fd} {bs : List Nat} (h : (c, bs) ∈ Q) (hf : Wm.fit m c = false) (ht : Wm.tooLong m = false) : Wm.mayF l m = false := by
  have hc : c ∈ l := by rw [← hQ]; exact List.mem_map.2 ⟨_, h, rfl⟩
  have : l.all (Wm.fit m) = false := by
    cases he : l.all (Wm.fit m)
    · rfl
    · rw [List.all_eq_true] at he
      rw [he c hc] at hf
      cases hf
  unfold Wm.mayF
  rw [ht, this]
  rfl
theorem mayF_yes {m : M} {Q : List (Wm.Fd × List Nat)} {l : List Wm.Fd} (hQ : Q.map Prod.fst = l) (h : (Wm.tooLong m || Q.all fun x => Wm.fit m x.1) = true) : Wm.mayF l m = decide (selN Q (Wm.only m.kind m.id) m = m) := by
  have e : l.all (Wm.fit m) = Q.all fun x => Wm.fit m x.1 := by rw [← hQ, List.all_map]; rfl
  unfold Wm.mayF Wm.sel
  rw [e, h, sel_fold, hQ, Bool.true_and]
theorem all_snoc {Q : List (Wm.Fd × List Nat)} {k : Nat} {x : Wm.Fd × List Nat} (h : Q[k]? = some x) (p : Wm.Fd × List Nat → Bool) : (Q.take (k + 1)).all p = ((Q.take k).all p && p x) := by
  rw [List.take_add_one, h]; simp
/-- may's answer -/
def MayE (m : M) (w w' : World) (e : Ending) : Prop := ∃ v Q, e = .returned (.tuple #[v, .bool (Wm.mayF ((Wm.fields m.kind).getD []) m)]) ∧ (Wm.mayF ((Wm.fields m.kind).getD []) m = true → Q.map Prod.fst = (Wm.fields m.kind).getD [] ∧ IsPs w' w.heap.size Q v) ∧ Chg (fun _ => False) w w'
attribute [local go_sem ↓] ld_msg st_msg st_part
set_option maxHeartbeats 4000000 in
set_option maxRecDepth 100000 in
theorem may_loop (m : M) (L : Ls) (w : World) (hm : Nm m) (hl : IsL w m L) (hs : (Wm.fields m.kind).isSome = true) : Calls Tryz.prog 39 #[.agg (mcells m L)] w fun e w' => MayE m w w' e := by
  have b0 : IsM (w.alloc (.cells (mcells m L) 36)) w.heap.size m L := Blk.new w 36 (mcells m L)
  have fm := b0.mf hm.hd
  have ua := fm.kind
  have HP := Lib.hid (parts_calls m.kind (w.alloc (.cells (mcells m L) 36)))
  rw [hs] at HP
  have Hs := Lib.hid hs
  have B0 := Lib.hid b0
  have Hm := Lib.hid hm
  have Hl := Lib.hid hl
  clear fm b0 hm hl hs
  go_enter Tryz.func39, Tryz.ntmps39
  go_wp2_with fail
  refine HP.out.mono ?_
  rintro e w1 ⟨v, Q, rfl, hQ, hps, hc⟩
  obtain ⟨A, c, rfl, hrow⟩ := hps.row
  have hQ4 : Q.length ≤ 4 := by
    obtain ⟨l, hl⟩ := Option.isSome_iff_exists.1 Hs.out
    have h4 := fields_len m.kind hl
    rw [hl, Option.getD_some] at hQ
    rw [← hQ, List.length_map] at h4
    exact h4
  have fm1 := ((B0.out).chg hc (fun h => h)).mf Hm.out.hd
  have uk := fm1.kind
  have ui := fm1.id
  have hst := st_only w1 m.kind m.id
  have HQ := Lib.hid hQ
  have Hps := Lib.hid hps
  have Hc := Lib.hid hc
  have Hgo := Lib.hid (Blk.setRow (Blk.new w1 36 Tryz.zeroCells36) (mcells (Wm.only m.kind m.id) nolist))
  have Hch := Lib.hid (Chg.setRow (g := w1.heap.size) ((Chg.refl (fun _ => False) w1).alloc (.cells Tryz.zeroCells36 36)) (.inr (Nat.le_refl _)) (mcells (Wm.only m.kind m.id) nolist))
  clear fm1 ua hQ hps hc hrow
  go_wp2_with fail
  clear uk ui hst
  generalize hw2 : ((w1.alloc (.cells Tryz.zeroCells36 36)).setRow w1.heap.size (mcells (Wm.only m.kind m.id) nolist)) = w2 at *
  clear hw2
  go_loopw [8, 24] (fun _ iv wr => ∃ k : Nat, k ≤ Q.length ∧ iv = .int .i64 k ∧ IsM wr w1.heap.size (selN (Q.take k) (Wm.only m.kind m.id) m) (selL (Q.take k) nolist L) ∧ Chg (fun _ => False) w1 wr ∧ (Wm.tooLong m || (Q.take k).all fun x => Wm.fit m x.1) = true) (fun _ iv _ => Q.length - (intOf iv).toNat)
  case atStart => exact ⟨0, by omega, rfl, Hgo.out, Hch.out, by simp⟩
  case round =>
    obtain ⟨k, hk, rfl, hgo, hchg, hall⟩ := hrel
    have Hall := Lib.hid hall
    clear hall
    have hnm := sel_nm Hm.out (Q.take k) (only_nm Hm.out.kind Hm.out.id)
    by_cases hp : k < Q.length
    · obtain ⟨⟨c, bs⟩, hx⟩ : ∃ x, Q[k]? = some x := ⟨_, List.getElem?_eq_getElem hp⟩
      have hmem := List.mem_of_getElem? hx
      have hgmlt : w.heap.size < w1.heap.size := by have := (Hc.out).size; simp at this; omega
      obtain ⟨b, off, cc, hv, hcell⟩ := pcells_at Q (((Hps.out).chg hchg (fun b _ h => h)).row) hx
      injection hv with hA hcc hcap
      subst hA hcap
      have d0 := hcell 0 _ rfl
      have d1 := hcell 1 _ rfl
      have d2 := hcell 2 _ rfl
      have d3 := hcell 3 _ rfl
      rw [Nat.add_zero] at d0
      have hbz := Blk.new wr 88 #[.nilFunc, .nilFunc, .nilFunc, .nilFunc]
      have hst := st_p hbz rfl (.func (layF c)) (.func (takeF c)) (.func (copyF c)) (.func (mayF c)) (caps bs (layI c)) (caps bs (takeI c)) (caps bs (copyI c)) (caps bs (mayI c))
      have hb2 := Blk.setRow hbz #[.func (.func (layF c)) #[] (caps bs (layI c)), .func (.func (takeF c)) #[] (caps bs (takeI c)), .func (.func (copyF c)) #[] (caps bs (copyI c)), .func (.func (mayF c)) #[] (caps bs (mayI c))]
      have f3 := hb2.cell 3
      have hcx : Chg (fun _ => False) wr ((wr.alloc (.cells #[.nilFunc, .nilFunc, .nilFunc, .nilFunc] 88)).setRow wr.heap.size #[.func (.func (layF c)) #[] (caps bs (layI c)), .func (.func (takeF c)) #[] (caps bs (takeI c)), .func (.func (copyF c)) #[] (caps bs (copyI c)), .func (.func (mayF c)) #[] (caps bs (mayI c))]) :=
        Chg.setRow ((Chg.refl (fun _ => False) wr).alloc _) (.inr (Nat.le_refl _)) _
      have hrm := run_may c
      have hrc := run_copy c
      have Hx := Lib.hid hx
      have Hmem := Lib.hid hmem
      have Hgo' := Lib.hid (hgo.chg hcx (fun h => h))
      have Hchg := Lib.hid (hchg.trans hcx)
      have Hb2 := Lib.hid hb2
      have Hnm := Lib.hid hnm
      have Hlt := Lib.hid hgmlt
      clear hx hmem hcell hgo hchg hb2 hbz hcx hnm hgmlt
      go_wp2_with fail
      clear d0 d1 d2 d3 f3 hst
      generalize hwx : ((wr.alloc (.cells #[.nilFunc, .nilFunc, .nilFunc, .nilFunc] 88)).setRow wr.heap.size #[.func (.func (layF c)) #[] (caps bs (layI c)), .func (.func (takeF c)) #[] (caps bs (takeI c)), .func (.func (copyF c)) #[] (caps bs (copyI c)), .func (.func (mayF c)) #[] (caps bs (mayI c))]) = wx at *
      clear hwx
      have hpart := ((Hps.out).part _ Hmem.out).1
      have hbel := (Hps.out).below Hmem.out
      have HM := part_may c bs w.heap.size m L wx (hpart.chg Hchg.out (fun i hi h => h)) (IsM.keep B0.out Hc.out Hchg.out) Hm.out (IsL.keep Hl.out Hc.out Hchg.out)
      have HCP : ∀ wy, Chg (fun _ => False) wx wy → Calls Tryz.prog (copyF c) (#[pt w1.heap.size, pt w.heap.size] ++ caps bs (copyI c)) wy fun e w' => e = .returned (.tuple #[]) ∧ IsM w' w1.heap.size (Wm.put (selN (Q.take k) (Wm.only m.kind m.id) m) m c) (putL (selL (Q.take k) nolist L) L c) ∧ Chg (fun k => k = w1.heap.size) wy w' := fun wy hy =>
        part_copy c bs w1.heap.size w.heap.size _ m _ L wy (hpart.chg (Hchg.out.trans hy) (fun i hi h => h)) (Hgo'.out.chg hy (fun h => h)) (IsM.keep B0.out Hc.out (Hchg.out.trans hy)) Hnm.out.hd Hm.out (IsL.keep Hl.out Hc.out (Hchg.out.trans hy)) (by have := Hlt.out; omega) (fun i hi e => by have := hbel i hi; dsimp only at this e; omega)
      have HCP' := Lib.hid HCP
      have HM' := Lib.hid HM
      have hldm : ∀ wy, Chg (fun _ => False) wx wy → (ldAgg 36 (.pointer (some ⟨w.heap.size, 0, none⟩))).run Tryz.prog wy = .ok (.agg (mcells m L)) wy := fun wy hy => ldM Hm.out.hd (IsM.keep B0.out Hc.out (Hchg.out.trans hy))
      have Hldm := Lib.hid hldm
      have Hbel := Lib.hid hbel
      have Hpart := Lib.hid hpart
      clear hpart hbel HM HCP hldm
      have hrel' : ∀ w', IsM w' w1.heap.size (Wm.put (selN (Q.take k) (Wm.only m.kind m.id) m) m c) (putL (selL (Q.take k) nolist L) L c) → Chg (fun _ => False) w1 w' → (Wm.tooLong m = true ∨ Wm.fit m c = true) → IsM w' w1.heap.size (selN (Q.take (k + 1)) (Wm.only m.kind m.id) m) (selL (Q.take (k + 1)) nolist L) ∧ Chg (fun _ => False) w1 w' ∧ (Wm.tooLong m || (Q.take (k + 1)).all fun x => Wm.fit m x.1) = true := fun w' h1 h2 h3 => by
        refine ⟨?_, h2, ?_⟩
        · rw [selN_snoc Hx.out, selL_snoc Hx.out]; exact h1
        · rw [all_snoc Hx.out]
          have := Hall.out
          rcases h3 with h3 | h3
          · rw [h3]; rfl
          · rw [h3, Bool.and_true]; exact this
      have Hrel := Lib.hid hrel'
      clear hrel'
      cases hfit : Wm.fit m c
      · cases hto : Wm.tooLong m
        · have HM2 := HM'.out
          rw [hfit] at HM2
          refine HM2.mono ?_
          rintro e wy ⟨rfl, hcy⟩
          have hld := Hldm.out wy hcy
          have HT := tooLong_calls m L wy Hm.out.hd
          rw [hto] at HT
          have HT' := Lib.hid HT
          have Hcy := Lib.hid hcy
          have Hno := Lib.hid (mayF_no HQ.out Hmem.out hfit hto)
          clear HM2 hcy HT hfit hto
          go_wp2_with fail
          refine HT'.out.mono ?_
          rintro e wz ⟨rfl, hcz⟩
          have Hcz := Lib.hid hcz
          clear hcz
          go_wp2_with fail
          go_ret2
          exact ⟨.slice none 0 0, Q, by rw [Hno.out]; rfl, (fun h => by rw [Hno.out] at h; cases h), (((((Chg.refl _ w).alloc _).trans Hc.out).trans Hchg.out).trans Hcy.out).trans Hcz.out⟩
        · have HM2 := HM'.out
          rw [hfit] at HM2
          refine HM2.mono ?_
          rintro e wy ⟨rfl, hcy⟩
          have hld := Hldm.out wy hcy
          have HT := tooLong_calls m L wy Hm.out.hd
          rw [hto] at HT
          have HT' := Lib.hid HT
          have Hcy := Lib.hid hcy
          have Hto := Lib.hid hto
          clear HM2 hcy HT hfit hto
          go_wp2_with fail
          refine HT'.out.mono ?_
          rintro e wz ⟨rfl, hcz⟩
          have f2 := (Hb2.out.chg (Hcy.out.trans hcz) (fun h => h)).cell 2
          have Hcz := Lib.hid hcz
          clear hcz
          go_wp2_with fail
          refine (HCP'.out wz (Hcy.out.trans Hcz.out)).mono ?_
          rintro e wu ⟨rfl, hgu, hcu⟩
          have Hgu := Lib.hid hgu
          have Hcu := Lib.hid hcu
          clear hgu hcu f2
          go_wp2_with fail
          go_roundw
          case rel => exact ⟨k + 1, by omega, by go_num, Hrel.out _ Hgu.out (((Hchg.out.trans Hcy.out).trans Hcz.out).andThen Hcu.out (fun b hb e => by omega)) (.inl Hto.out)⟩
          case measure => simp [intOf]; omega
      · have HM2 := HM'.out
        rw [hfit] at HM2
        refine HM2.mono ?_
        rintro e wy ⟨rfl, hcy⟩
        have f2 := (Hb2.out.chg hcy (fun h => h)).cell 2
        have Hcy := Lib.hid hcy
        have Hfit := Lib.hid hfit
        clear HM2 hcy hfit
        go_wp2_with fail
        refine (HCP'.out wy Hcy.out).mono ?_
        rintro e wu ⟨rfl, hgu, hcu⟩
        have Hgu := Lib.hid hgu
        have Hcu := Lib.hid hcu
        clear hgu hcu f2
        go_wp2_with fail
        go_roundw
        case rel => exact ⟨k + 1, by omega, by go_num, Hrel.out _ Hgu.out ((Hchg.out.trans Hcy.out).andThen Hcu.out (fun b hb e => by omega)) (.inr Hfit.out)⟩
        case measure => simp [intOf]; omega
    · obtain rfl : k = Q.length := by omega
      rw [List.take_length] at hgo hnm
      have Hall' := Hall.out
      rw [List.take_length] at Hall'
      have hkm := IsM.keep B0.out Hc.out hchg
      have hkl := IsL.keep Hl.out Hc.out hchg
      have hld1 := ldM Hm.out.hd hkm
      have hld2 := ldM hnm.hd hgo
      have HS := Lib.hid (msame_calls (selN Q (Wm.only m.kind m.id) m) m (selL Q nolist L) L wr hnm Hm.out (sel_isl hkl Q (only_isl wr m.kind m.id)) hkl)
      have Hres := Lib.hid (mayF_yes HQ.out Hall')
      have Hchg := Lib.hid hchg
      clear hgo hchg hnm Hall' hkm hkl Hall
      go_wp2_with fail
      refine HS.out.mono ?_
      rintro e wy ⟨rfl, hcy⟩
      have Hcy := Lib.hid hcy
      clear hcy hld1 hld2
      go_wp2_with fail
      go_ret2
      refine ⟨_, Q, by rw [Hres.out]; rfl, fun _ => ⟨HQ.out, ?_⟩, ((((Chg.refl _ w).alloc _).trans Hc.out).trans Hchg.out).trans Hcy.out⟩
      exact ((Hps.out).chg (Hchg.out.trans Hcy.out) (fun b _ h => h)).low (by simp)
theorem may_calls (m : M) (L : Ls) (w : World) (hm : Nm m) (hl : IsL w m L) : Calls Tryz.prog 39 #[.agg (mcells m L)] w fun e w' =>
    (Wm.fields m.kind = none ∧ e = .returned (.tuple #[.slice none 0 0, .bool false]) ∧ Chg (fun _ => False) w w') ∨ (∃ l, Wm.fields m.kind = some l ∧ ∃ v Q, e = .returned (.tuple #[v, .bool (Wm.mayF l m)]) ∧ (Wm.mayF l m = true → Q.map Prod.fst = l ∧ IsPs w' w.heap.size Q v) ∧ Chg (fun _ => False) w w') := by
  cases hf : Wm.fields m.kind with
  | none => exact (may_no m L w hm (by rw [hf]; rfl)).mono fun e w' ⟨h1, h2⟩ => .inl ⟨rfl, h1, h2⟩
  | some l => exact (may_loop m L w hm hl (by rw [hf]; rfl)).mono fun e w' h => .inr ⟨l, rfl, by rw [MayE, hf] at h; exact h⟩
end Go.Proofs.YthkfcfkkamffpaaGreat
