/-
  Layer 6: the walks of the laws MetaTurned and MetaWhole.
-/
import Derived.Test.YtlhdbkbgedlmnaaDoorMaw
import Derived.Test.YtlhdbkbgedlmnaaDoorMrec
import Derived.Deep.DeepCutAuto
import Derived.Laws.IdiomStrings
namespace Go.Proofs.YtlhdbkbgedlmnaaDoor
open Go.RowKit
set_option linter.unusedVariables false
set_option linter.unusedSimpArgs false
attribute [local go_sem ↓] ldM_eq stF_eq stM_eq

theorem frozen_mark {w : World} {R : Array Value} {j n : Nat} {t : TypeId} (hh : w.heap[n]? = some (.cells R t (R.size, R.size + 1))) (h : j < R.size) : w.frozen? ⟨n, j, none⟩ = false := by
  simp [World.frozen?, hh]
  intro h2
  omega
/-- a text's bytes as new memory -/
theorem bytes_new (w : World) (l : List UInt8) : ∃ (c : Nat) (wb : World), (convert 9 54 (S l)).run Tryd.prog w = .ok (.slice (some ⟨w.heap.size, 0, none⟩) l.length c) wb ∧
    (∀ j (h : j < l.length), wb.cell? ⟨w.heap.size, j, none⟩ = some (.int .u8 (l[j].toNat : Int))) ∧ (∀ j, j < l.length → wb.frozen? ⟨w.heap.size, j, none⟩ = false) ∧ Chg (fun _ => False) w wb ∧ w.heap.size < wb.heap.size := by
  have e : (⟨l.toArray⟩ : ByteArray).size = l.length := by simp [ByteArray.size]
  have hr := run_bytes_of_string w 9 54 5 ⟨l.toArray⟩ Tryd.underlying9 Tryd.underlying54 Tryd.underlying5
  generalize grownCap w (⟨l.toArray⟩ : ByteArray).size 0 5 = c at hr
  rw [e] at hr
  have hs : l.length ≤ (bytesRow ⟨l.toArray⟩ c).size := by simp [bytesRow]
  have hg : ∀ j (h : j < l.length), (bytesRow ⟨l.toArray⟩ c)[j]? = some (.int .u8 (l[j].toNat : Int)) := by
    intro j h
    unfold bytesRow
    rw [Array.getElem?_append_left (by simpa using h)]
    simp [h]
  generalize bytesRow ⟨l.toArray⟩ c = R at hr hs hg
  have hh : (w.drew.alloc (.cells R 5 (R.size, R.size + 1))).heap[w.heap.size]? = some (.cells R 5 (R.size, R.size + 1)) := heap_alloc_new w.drew _
  refine ⟨_, _, hr, ?_, ?_, ?_, ?_⟩
  · intro j h
    rw [cell_of_row _ _ _ _ _ _ hh]
    exact hg j h
  · intro j h
    exact frozen_mark hh (Nat.lt_of_lt_of_le h hs)
  · exact ((Chg.refl _ w).drew).alloc _
  · simp

set_option maxHeartbeats 4000000 in
set_option maxRecDepth 100000 in
theorem metaTurned_walk (f : Mt.F) (m : Mt.M) (at_ : Int) (w : World) (hm : m.Ok) (hat : I64 at_) : Calls Tryd.prog 8 #[FV f, .agg (mcells m), .int .i64 at_] w fun e w' => e = .returned (.bool true) ∧ Chg (fun _ => False) w w' := by
  have q := FM.new w f m
  have C := ((Chg.refl (fun _ => False) w).alloc (.cells #[.int .i64 f.page, .int .i64 f.width] 23)).alloc (.cells (mcells m) 31)
  have Hms := Lib.hid hm.sum
  have Hm := Lib.hid hm
  cases hok : Mt.ok f m
  · have hk : chk f m = 2 := chk_no (by rw [hok]; simp)
    have HE := Lib.hid (fun w => encode_calls f m w hm)
    have HC := Lib.hid (fun w => check_calls f m w hm)
    rw [hk] at HE HC
    clear hm hok hk
    go_enter Tryd.func8, Tryd.ntmps8
    go_wp2_with fail
    refine (awake_calls _).mono ?_
    rintro e w1 ⟨rfl, hc⟩
    have C := C.trans hc
    have q := q.chg hc
    clear hc
    have l := q.ld Hms.out
    have f0 := q.f0
    have f1 := q.f1
    go_wp2_with fail
    refine (HE.out _).mono ?_
    rintro e w2 ⟨rfl, hc⟩
    have C := C.trans hc
    have q := q.chg hc
    clear hc l f0 f1
    have l := q.ld Hms.out
    have f0 := q.f0
    have f1 := q.f1
    go_wp2_with fail
    refine (HC.out _).mono ?_
    rintro e w3 ⟨rfl, hc⟩
    have C := C.trans hc
    clear hc l f0 f1
    go_wp2_with fail
    go_ret
    exact ⟨rfl, C⟩
  · have he : encS f m = Mt.enc f m := encS_yes hok
    have hk : chk f m = 0 := chk_yes hok
    have HE := Lib.hid (fun w => encode_calls f m w hm)
    have hl := enc_length hm hok
    have hp := (Mt.mayF_iff.1 (ok_may hok)).1
    have hp1 : 1024 ≤ f.page := by omega
    have hp2 : f.page ≤ 8192 := by omega
    rw [he, hk] at HE
    have Hok := Lib.hid hok
    clear hm hok he hk hp
    go_enter Tryd.func8, Tryd.ntmps8
    go_wp2_with fail
    refine (awake_calls _).mono ?_
    rintro e w1 ⟨rfl, hc⟩
    have C := C.trans hc
    have q := q.chg hc
    clear hc
    have l := q.ld Hms.out
    have f0 := q.f0
    have f1 := q.f1
    go_wp2_with fail
    refine (HE.out _).mono ?_
    rintro e w2 ⟨rfl, hc⟩
    have C := C.trans hc
    have q := q.chg hc
    clear hc l f0 f1
    have Hl := Lib.hid hl
    clear hl
    go_upto_if 30 with fail
    go_cut [2] (fun s2 wx => ∃ x : Int, 0 ≤ x ∧ x < 9223372036854775808 ∧ s2 = .int .i64 x ∧ wx = w2)
    case first =>
      obtain ⟨ha1, ha2⟩ := hat
      rcases Int.lt_or_le at_ 0 with h | h
      · have hw1 : IntKind.i64.wrap (at_ + 1) = at_ + 1 := IntWalk.i64_in _ (by omega)
        have hw2 : IntKind.i64.wrap (-(at_ + 1)) = -(at_ + 1) := IntWalk.i64_in _ (by omega)
        go_wp2_with fail
        go_meet
        exact ⟨_, by omega, by omega, rfl, rfl⟩
      · go_wp2_with fail
        go_meet
        exact ⟨_, by omega, by omega, rfl, rfl⟩
    case rest =>
    obtain ⟨x, hx1, hx2, rfl, rfl⟩ := hcut
    have f0 := q.f0
    have f1 := q.f1
    obtain ⟨r, hr, hr0, hr1⟩ : ∃ r : Int, (x / f.page).tmod 255 = r ∧ 0 ≤ r ∧ r ≤ 254 := by
      have h0 : 0 ≤ x / f.page := Int.ediv_nonneg hx1 (by omega)
      exact ⟨_, Int.tmod_eq_emod_of_nonneg h0, by omega, by omega⟩
    obtain ⟨i, hi, hil⟩ : ∃ i : Nat, x % f.page = (i : Int) ∧ (i : Int) < f.page := by
      have h0 := Int.emod_nonneg x (show f.page ≠ 0 by omega)
      have h1 := Int.emod_lt_of_pos x (show 0 < f.page by omega)
      exact ⟨(x % f.page).toNat, by omega, by omega⟩
    obtain ⟨E, hE⟩ : ∃ E, E = Mt.enc f m := ⟨_, rfl⟩
    have HE := Lib.hid hE
    rw [← hE]
    have hiE : i < E.length := by have := Hl.out; rw [← hE] at this; omega
    clear hE
    obtain ⟨c, wb, hcv, hcell, hfr, hcb, hsz⟩ := bytes_new wc E
    have hci := hcell i hiE
    have hfi := hfr i hiE
    have Hcell := Lib.hid hcell
    have Hfr := Lib.hid hfr
    clear hcell hfr
    obtain ⟨b', hx, hne⟩ : ∃ b' : UInt8, bits .xor .u8 (E[i].toNat : Int) (1 + r) = (b'.toNat : Int) ∧ E[i] ≠ b' := by
      obtain ⟨k, hk⟩ : ∃ k : Nat, 1 + r = (k : Int) := ⟨(1 + r).toNat, by omega⟩
      have hkl : k < 256 := by omega
      have hb := E[i].toNat_lt
      have hxl : E[i].toNat ^^^ k < 256 := Nat.xor_lt_two_pow (n := 8) (by omega) (by omega)
      refine ⟨UInt8.ofNat (E[i].toNat ^^^ k), ?_, ?_⟩
      · rw [hk, u8_xor_nat _ _ (by omega) hkl, UInt8.toNat_ofNat', Nat.mod_eq_of_lt hxl]
      · intro e
        have h1 := congrArg UInt8.toNat e
        rw [UInt8.toNat_ofNat', Nat.mod_eq_of_lt hxl] at h1
        have h2 : k = 0 := by
          have : E[i].toNat ^^^ (E[i].toNat ^^^ k) = E[i].toNat ^^^ E[i].toNat := by rw [← h1]
          rwa [← Nat.xor_assoc, Nat.xor_self, Nat.zero_xor] at this
        omega
    have Hne := Lib.hid hne
    clear hne
    have hcv2 : (convert 54 9 (.slice (some ⟨wc.heap.size, 0, none⟩) E.length c)).run Tryd.prog (wb.setCell ⟨wc.heap.size, i, none⟩ (.int .u8 (b'.toNat : Int))) = .ok (S (E.set i b')) (wb.setCell ⟨wc.heap.size, i, none⟩ (.int .u8 (b'.toNat : Int))) := by
      have := run_convert_bytes_back (P := Tryd.prog) (wb.setCell ⟨wc.heap.size, i, none⟩ (.int .u8 (b'.toNat : Int))) 54 9 5 ⟨wc.heap.size, 0, none⟩ c (E.set i b') Tryd.underlying54 Tryd.underlying5 Tryd.underlying9 (fun j hj => by
        have hadd : (⟨wc.heap.size, 0, none⟩ : Addr).add j = ⟨wc.heap.size, j, none⟩ := by unfold Addr.add; split <;> simp_all
        have hj' : j < E.length := by simpa using hj
        rw [hadd]
        by_cases e : i = j
        · subst e
          rw [List.getElem_set_self]
          exact World.cell?_setCell_same _ _ _ hci
        · rw [List.getElem_set_ne e]
          have h := Hcell.out j hj'
          rw [← h]
          exact World.cell?_setCell_other _ _ _ _ (by intro h; injection h with _ h; exact e h))
      rw [List.length_set] at this
      exact this
    have C := ((C.trans hcb).setCell (p := ⟨wc.heap.size, i, none⟩) (.inr C.size) (.int .u8 (b'.toNat : Int)))
    have q := q.chg (hcb.setCell (p := ⟨wc.heap.size, i, none⟩) (.inr (Nat.le_refl _)) (.int .u8 (b'.toNat : Int)))
    have f0 := q.f0
    have f1 := q.f1
    obtain ⟨qq, hq1, hq2, hq3⟩ := may_page (ok_may Hok.out)
    have hgm := guard_meta
    have Hq1 := Lib.hid hq1
    rcases Nat.lt_or_ge i qq with hlt | hge
    · have hk := turned_near Hm.out Hok.out hq1 hq2 hlt (b := b') (by
        intro c hc
        rw [← HE.out] at hc
        rw [List.getElem?_eq_getElem hiE] at hc
        injection hc with hc
        rw [← hc]; exact Hne.out)
      have hfit : Mt.fit f (E.set i b') = true := fit_of (ok_may Hok.out) (by rw [List.length_set]; have := Hl.out; rw [← HE.out] at this; exact this)
      rw [← HE.out] at hk
      obtain ⟨d1, d2, d3⟩ := dc_yes hfit
      rw [hk.2] at d1
      rw [hk.1] at d2
      have HD := Lib.hid (fun w => decode_calls f (E.set i b') w)
      rw [d1, d2, d3] at HD
      have ht1 : decide (x % f.page < f.page / 8) = true := by rw [decide_eq_true_iff]; omega
      have ht2 : decide ((i : Int) < f.page / 8) = true := by rw [decide_eq_true_iff]; omega
      have heq := fun w => (show (binOp .eql 31 (.agg (mcells Mt.zero)) (.agg #[.int .u64 0, .int .u32 0, .int .u8 0, .int .u8 0, .int .u8 0, .int .u8 0, .int .u8 0, .int .u8 0, .int .u8 0, .int .u8 0, .int .u8 0, .int .u8 0, .int .u8 0, .int .u8 0, .int .u8 0, .int .u8 0, .int .u8 0, .int .u8 0, .int .u8 0, .int .u8 0, .int .u8 0, .int .u8 0, .int .u8 0, .int .u8 0, .int .u8 0, .int .u8 0, .int .u8 0, .int .u8 0, .int .u8 0, .int .u8 0, .int .u8 0, .int .u8 0, .int .u8 0, .int .u8 0, .int .u64 0, .int .u64 0, .int .u32 0, .int .u32 0])).run Tryd.prog w = _ from eql_meta Mt.zero Mt.zero rfl rfl w)
      rw [decide_eq_true rfl] at heq
      clear hk hfit d1 d2 d3
      clear hq1
      go_wp2_with fail
      refine (HD.out _).mono ?_
      rintro e w3 ⟨rfl, hc⟩
      obtain ⟨wy, st1, k1, hz⟩ := one_new w3 Mt.zero rfl
      have C := (C.trans hc).trans hz
      have q := (q.chg hc).chg hz
      clear hc hz f0 f1
      have f0 := q.f0
      have f1 := q.f1
      have l1 := ldM_of k1 rfl
      go_wp2_with fail
      go_ret
      exact ⟨rfl, C⟩
    · have hk := turned_far (s := E) (b := b') hq1 hge
      have hb := back Hm.out Hok.out
      rw [← HE.out] at hb
      have hfit : Mt.fit f (E.set i b') = true := fit_of (ok_may Hok.out) (by rw [List.length_set]; have := Hl.out; rw [← HE.out] at this; exact this)
      obtain ⟨d1, d2, d3⟩ := dc_yes hfit
      rw [hk, hb.2.2] at d1
      rw [hk, hb.2.1] at d2
      have HD := Lib.hid (fun w => decode_calls f (E.set i b') w)
      rw [d1, d2, d3] at HD
      have ht1 : decide (x % f.page < f.page / 8) = false := by rw [decide_eq_false_iff_not]; omega
      have ht2 : decide ((i : Int) < f.page / 8) = false := by rw [decide_eq_false_iff_not]; omega
      have heq := fun w => eql_meta m m Hms.out Hms.out w
      rw [decide_eq_true rfl] at heq
      clear hk hb hfit d1 d2 d3
      clear hq1
      go_wp2_with fail
      refine (HD.out _).mono ?_
      rintro e w3 ⟨rfl, hc⟩
      obtain ⟨wy, st1, k1, hz⟩ := one_new w3 m Hms.out
      have C := (C.trans hc).trans hz
      have q := (q.chg hc).chg hz
      clear hc hz f0 f1
      have f0 := q.f0
      have f1 := q.f1
      have l1 := ldM_of k1 Hms.out
      have l := q.ld Hms.out
      go_wp2_with fail
      go_ret
      exact ⟨rfl, C⟩
theorem mixb_bits (c : UInt8) (k : Nat) : (bits BinOp.and IntKind.u8 ((c.toNat : Int) / 2 ^ k) 1 == 1) = mixb c.toNat k := by
  have hc := c.toNat_lt
  have h : (c.toNat : Int) / 2 ^ k = ((c.toNat / 2 ^ k : Nat) : Int) := by simp
  have hd := Nat.div_le_self c.toNat (2 ^ k)
  rw [h, show (1 : Int) = ((1 : Nat) : Int) from rfl, u8_and_nat _ _ (by omega) (by omega), Nat.and_one_is_mod]
  unfold mixb
  rw [Bool.eq_iff_iff]
  simp
  omega
set_option maxHeartbeats 4000000 in
set_option maxRecDepth 100000 in
theorem mixed_calls (q : Nat) (wd : Int) (a b : List UInt8) (c : UInt8) (w : World) (hq : q ≤ 1024) (ha : a.length = 8 * q) (hb : b.length = 8 * q) :
    Calls Tryd.prog 21 #[FV ⟨8 * (q : Int), wd⟩, S a, S b, .int .u8 c.toNat] w fun e w' => e = .returned (S (mixed q a b c.toNat 8)) ∧ Chg (fun _ => False) w w' := by
  have hdiv : 8 * (q : Int) / 8 = (q : Int) := by omega
  have hp0 : 0 ≤ 8 * (q : Int) := by omega
  have hp1 : 8 * (q : Int) ≤ 8192 := by omega
  go_enter Tryd.func21, Tryd.ntmps21
  go_wp2_with fail
  go_loop [10, 11] (fun sv iv => ∃ k : Nat, k ≤ 8 ∧ iv = .int .i64 k ∧ sv = S (mixed q a b c.toNat k)) (fun _ iv => 8 - (intOf iv).toNat)
  case atStart => exact ⟨0, by omega, rfl, rfl⟩
  case round =>
    obtain ⟨k, hk, rfl, rfl⟩ := hrel
    rcases Nat.lt_or_ge k 8 with hlt | hge
    · have hml := mixed_len q a b c.toNat ha hb k hk
      have hku : k * q + q ≤ 8 * q := by
        have h3 : (k + 1) * q = k * q + q := Nat.succ_mul k q
        have h4 : (k + 1) * q ≤ 8 * q := Nat.mul_le_mul_right q hlt
        omega
      obtain ⟨u, hu⟩ : ∃ u : Nat, k * q = u := ⟨_, rfl⟩
      rw [hu] at hml hku
      have hw1 : IntKind.i64.wrap ((k : Int) * (q : Int)) = (u : Int) := by rw [← hu, IntWalk.i64_in _ (by rw [← Int.natCast_mul, hu]; omega)]; simp
      have hw2 : IntKind.i64.wrap ((u : Int) + (q : Int)) = (u : Int) + (q : Int) := by rw [IntWalk.i64_in _ (by omega)]
      have hsa := run_slice_mid (P := Tryd.prog) 9 Tryd.underlying9 a u (u + q) u ((u : Int) + (q : Int)) rfl (by simp) (by omega) (by omega)
      have hsb := run_slice_mid (P := Tryd.prog) 9 Tryd.underlying9 b u (u + q) u ((u : Int) + (q : Int)) rfl (by simp) (by omega) (by omega)
      have hun := show mixed q a b c.toNat (k + 1) = mixed q a b c.toNat k ++ ((if mixb c.toNat k = true then b else a).drop u).take q by rw [← hu]; rfl
      obtain ⟨M, hM⟩ : ∃ M, M = mixed q a b c.toNat k := ⟨_, rfl⟩
      rw [← hM] at hun hml ⊢
      have hadda := fun w => addS M ((a.drop u).take q) (by simp; omega) w
      have haddb := fun w => addS M ((b.drop u).take q) (by simp; omega) w
      have Hu := Lib.hid hu
      have Hun := Lib.hid hun
      clear hu hun hM
      rw [Nat.add_sub_cancel_left] at hsa hsb
      go_upto_region 7 with fail
      go_cut [25] (fun s25 wx => s25 = .bool (mixb c.toNat k) ∧ wx = w.alloc (.cells #[.int .i64 (8 * (q : Int)), .int .i64 wd] 23))
      case first =>
        go_wp2_with fail
        go_meet
        exact ⟨by rw [mixb_bits], rfl⟩
      case rest =>
      obtain ⟨rfl, rfl⟩ := hcut
      cases hm : mixb c.toNat k
      · have Hm := Lib.hid hm
        clear hm
        go_wp2_with fail
        go_round
        case rel => exact ⟨k + 1, by omega, by go_num, by rw [Hun.out, Hm.out]; rfl⟩
        case measure => simp [intOf]; omega
      · have Hm := Lib.hid hm
        clear hm
        go_wp2_with fail
        go_round
        case rel => exact ⟨k + 1, by omega, by go_num, by rw [Hun.out, Hm.out]; rfl⟩
        case measure => simp [intOf]; omega
    · obtain rfl : k = 8 := by omega
      go_wp2_with fail
      go_ret
      exact ⟨rfl, (Chg.refl _ w).alloc _⟩
end Go.Proofs.YtlhdbkbgedlmnaaDoor
