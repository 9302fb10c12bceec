/-
  Layer 6: the document's Bytes and Encode.
-/
import Derived.Test.YtlhdbkbgedlmnaaDoorMenc
import Derived.Test.YtlhdbkbgedlmnaaDoorMnum2
import Derived.Test.YtlhdbkbgedlmnaaDoorMchk4
import Derived.Deep.RegionHeld3
import Derived.Deep.RegionWith
namespace Go.Proofs.YtlhdbkbgedlmnaaDoor
open Go.RowKit
set_option linter.unusedVariables false
attribute [local go_sem ↓] loadDig_eq ldM_eq

theorem cv_byte (w : World) (a : Addr) (x : Int) (b : UInt8) (hx : x = b.toNat) (h : w.cell? a = some (.int .u8 x)) : (convert 54 9 (.slice (some a) 1 1)).run Tryd.prog w = .ok (S [b]) w := by
  have := run_convert_bytes_back (P := Tryd.prog) w 54 9 5 a 1 [b] Tryd.underlying54 Tryd.underlying5 Tryd.underlying9 (fun j hj => by
    have : j = 0 := by simpa using hj
    subst this
    have e : a.add 0 = a := by unfold Addr.add; cases a with | mk b o v => cases v <;> simp
    rw [e, h, hx]; simp)
  exact this
theorem cv_new (w : World) (x : Int) (b : UInt8) (hx : x = b.toNat) : (convert 54 9 (.slice (some ⟨w.heap.size, 0, none⟩) 1 1)).run Tryd.prog (w.alloc (.cells #[.int .u8 x] 5)) = .ok (S [b]) (w.alloc (.cells #[.int .u8 x] 5)) :=
  cv_byte _ _ x b hx (by rw [(Blk.new w 5 #[.int .u8 x]).cell]; rfl)
theorem number_int (x k : Int) (w : World) (h0 : 0 ≤ x) (h1 : x < 18446744073709551616) (h2 : 0 ≤ k) (h3 : k ≤ 8) : Calls Tryd.prog 37 #[.int .u64 x, .int .i64 k] w fun e w' => e = .returned (S (Pk.be k.toNat x)) ∧ Chg (fun _ => False) w w' := by
  obtain ⟨n, rfl⟩ := Int.eq_ofNat_of_zero_le h0
  obtain ⟨j, rfl⟩ := Int.eq_ofNat_of_zero_le h2
  exact number_calls j n w (by omega) (by unfold U64; omega)
theorem noughts_int (n : Int) (w : World) (h0 : 0 ≤ n) (hn : n ≤ 140737488355328) : Calls Tryd.prog 29 #[.int .i64 n] w fun e w' => e = .returned (S (Mt.zs n.toNat)) ∧ Chg (fun _ => False) w w' := by
  obtain ⟨j, rfl⟩ := Int.eq_ofNat_of_zero_le h0
  exact noughts_calls j w (by omega)
theorem keepCell {w w' : World} {p : Addr} {v : Value} (hc : Chg (fun _ => False) w w') (h : w.cell? p = some v) : w'.cell? p = some v := (hc.cell (World.block_lt_of_cell? _ _ h) (fun h => h)).trans h

theorem keep2 {w w' : World} {p q : Addr} {u v : Value} (hc : Chg (fun _ => False) w w') (h : w.cell? p = some u ∧ w.cell? q = some v) : w'.cell? p = some u ∧ w'.cell? q = some v := ⟨keepCell hc h.1, keepCell hc h.2⟩
theorem keep6 {w w' : World} {p q r s t o : Addr} {a b c d e f : Value} (hc : Chg (fun _ => False) w w') (h : w.cell? p = some a ∧ w.cell? q = some b ∧ w.cell? r = some c ∧ w.cell? s = some d ∧ w.cell? t = some e ∧ w.cell? o = some f) :
    w'.cell? p = some a ∧ w'.cell? q = some b ∧ w'.cell? r = some c ∧ w'.cell? s = some d ∧ w'.cell? t = some e ∧ w'.cell? o = some f :=
  ⟨keepCell hc h.1, keepCell hc h.2.1, keepCell hc h.2.2.1, keepCell hc h.2.2.2.1, keepCell hc h.2.2.2.2.1, keepCell hc h.2.2.2.2.2⟩

set_option maxHeartbeats 4000000 in
set_option maxRecDepth 100000 in
theorem bytes_calls (f : Mt.F) (m : Mt.M) (w : World) (hm : m.Ok) (hF : Mt.mayF f = true) :
    Calls Tryd.prog 28 #[FV f, .agg (mcells m)] w fun e w' => e = .returned (S (Mt.rec f m)) ∧ Chg (fun _ => False) w w' := by
  have Hms := Lib.hid hm.sum
  obtain ⟨N, hN1, hN2, hk⟩ := lg_pow hF
  obtain ⟨-, hw1, hw2⟩ := Mt.mayF_iff.1 hF
  have q0 := FM.new w f m
  have hch := ((Chg.refl (fun _ => False) w).alloc (.cells #[.int .i64 f.page, .int .i64 f.width] 23)).alloc (.cells (mcells m) 31)
  obtain ⟨R, hR⟩ : ∃ R, R = Mt.rec f m := ⟨_, rfl⟩
  obtain ⟨B, hB⟩ : ∃ B, B = Mt.body f m := ⟨_, rfl⟩
  have Hrec := Lib.hid (show Mt.rec f m = Mt.body f m ++ Pk.be 4 (Crc.crc (Mt.body f m)) from rfl)
  rw [← hR, ← hB] at Hrec
  rw [← hR]
  unfold Mt.body at hB
  have HB := Lib.hid hB
  clear hB hR
  generalize Mt.lg f.page = lgk at *
  obtain ⟨x1, x2, -, x4, x5, x6, x7⟩ := hm
  obtain ⟨p, wd⟩ := f
  dsimp only at *
  obtain ⟨n, hn⟩ : ∃ n : Nat, n = wd.toNat := ⟨_, rfl⟩
  obtain rfl : wd = (n : Int) := by omega
  obtain rfl := hN1
  have HN2 := Lib.hid hN2
  clear hF hn hN2
  have kf0 := q0.f0
  have kf1 := q0.f1
  dsimp only at kf0 kf1
  have hcv1 : IntKind.u64.wrap (lgk : Int) = (lgk : Int) := by rw [IntKind.wrap_u64]; omega
  have hcv2 : IntKind.u64.wrap (n : Int) = (n : Int) := by rw [IntKind.wrap_u64]; omega
  have ha1 := fun w => addS (Pk.be 4 1752657201) (Pk.be 1 (lgk : Int)) (by simp [Pk.be_length]) w
  have ha2 := fun w => addS (Pk.be 4 1752657201 ++ Pk.be 1 (lgk : Int)) (Pk.be 1 (n : Int)) (by simp [Pk.be_length]) w
  have ha3 := fun w => addS (Pk.be 4 1752657201 ++ (Pk.be 1 (lgk : Int) ++ Pk.be 1 (n : Int))) (Mt.zs 2) (by simp [Pk.be_length, Mt.zs]) w
  go_enter Tryd.func28, Tryd.ntmps28
  go_wp2_with fail
  generalize (w.alloc (.cells #[.int .i64 (N : Int), .int .i64 (n : Int)] 23)).alloc (.cells (mcells m) 31) = w0 at *
  go_region_held3 (fun w' => w'.cell? ⟨w.heap.size, 0, none⟩ = some (.int .i64 (N : Int)) ∧ w'.cell? ⟨w.heap.size, 1, none⟩ = some (.int .i64 (n : Int))) (first | exact keep2 hc (by assumption) | exact keep2 hc ⟨kf0, kf1⟩ | go_keep)
    (first
      | (go_at_call 37; refine (number_int _ _ _ (by omega) (by omega) (by omega) (by omega)).mono ?_; rintro e w' ⟨rfl, hc⟩)
      | (go_at_call 38; refine (rlog_pow lgk N HN2 hk _).mono ?_; rintro e w' ⟨rfl, rfl⟩)
      | (go_at_call 29; refine (noughts_int _ _ (by omega) (by omega)).mono ?_; rintro e w' ⟨rfl, hc⟩))
  rename_i wa ca wb cb wc cc hH
  have cx : Chg (fun _ => False) w0 w' := (((((Chg.refl _ w0).drew).trans ca).trans cb).trans cc).trans hc
  have q1 := q0.chg cx
  obtain ⟨k0, k1, k34, k35, k36, k37⟩ := q1.at_ Hms.out
  have hc1 := hch.trans cx
  clear hch ca cb cc hc hH kf0 kf1 q0 cx ha1 ha2 ha3
  have hcv1 : IntKind.u64.wrap (m.page : Int) = (m.page : Int) := by rw [IntKind.wrap_u64]; omega
  have hcv2 : IntKind.u64.wrap (m.list : Int) = (m.list : Int) := by rw [IntKind.wrap_u64]; omega
  have hcv3 : IntKind.u64.wrap (m.pages : Int) = (m.pages : Int) := by rw [IntKind.wrap_u64]; omega
  have ha1 := fun w => addS (Pk.be 8 (m.ver : Int)) (Pk.be 8 (m.cnt : Int)) (by simp [Pk.be_length]) w
  have ha2 := fun w => addS (Pk.be 8 (m.ver : Int) ++ Pk.be 8 (m.cnt : Int)) (Pk.be 8 (m.rver : Int)) (by simp [Pk.be_length]) w
  have ha3 := fun w => addS (Pk.be 8 (m.ver : Int) ++ (Pk.be 8 (m.cnt : Int) ++ Pk.be 8 (m.rver : Int))) (Pk.be 4 (m.page : Int)) (by simp [Pk.be_length]) w
  have ha4 := fun w => addS (Pk.be 8 (m.ver : Int) ++ (Pk.be 8 (m.cnt : Int) ++ (Pk.be 8 (m.rver : Int) ++ Pk.be 4 (m.page : Int)))) (Pk.be 4 (m.list : Int)) (by simp [Pk.be_length]) w
  have ha5 := fun w => addS (Pk.be 8 (m.ver : Int) ++ (Pk.be 8 (m.cnt : Int) ++ (Pk.be 8 (m.rver : Int) ++ (Pk.be 4 (m.page : Int) ++ Pk.be 4 (m.list : Int))))) (Pk.be 4 (m.pages : Int)) (by simp [Pk.be_length]) w
  obtain ⟨A, hA⟩ : ∃ A, A = Pk.be 4 1752657201 ++ (Pk.be 1 (lgk : Int) ++ (Pk.be 1 (n : Int) ++ Mt.zs 2)) := ⟨_, rfl⟩
  have hAl : A.length = 8 := by rw [hA]; simp [Pk.be_length, Mt.zs]
  have HA := Lib.hid hA
  rw [← hA]
  clear hA
  have ha6 := fun w => addS A (Pk.be 8 (m.ver : Int) ++ (Pk.be 8 (m.cnt : Int) ++ (Pk.be 8 (m.rver : Int) ++ (Pk.be 4 (m.page : Int) ++ (Pk.be 4 (m.list : Int) ++ Pk.be 4 (m.pages : Int)))))) (by simp [Pk.be_length, hAl]) w
  obtain ⟨gm, hgm⟩ : ∃ g : Nat, g = w.heap.size + 1 := ⟨_, rfl⟩
  rw [← hgm] at k0 k1 k34 k35 k36 k37 q1 ⊢
  have Hgm := Lib.hid hgm
  clear hgm
  obtain ⟨w1, hw1'⟩ : ∃ x, w' = x := ⟨_, rfl⟩
  subst w'
  go_wp2_with fail
  go_region_held3 (fun w' => w'.cell? ⟨gm, 0, none⟩ = some (.int .u64 m.ver) ∧ w'.cell? ⟨gm, 1, none⟩ = some (.int .u32 m.page) ∧
    w'.cell? ⟨gm, 34, none⟩ = some (.int .u64 m.cnt) ∧ w'.cell? ⟨gm, 35, none⟩ = some (.int .u64 m.rver) ∧ w'.cell? ⟨gm, 36, none⟩ = some (.int .u32 m.list) ∧ w'.cell? ⟨gm, 37, none⟩ = some (.int .u32 m.pages))
    (first | exact keep6 hc (by assumption) | exact keep6 hc ⟨k0, k1, k34, k35, k36, k37⟩ | go_keep)
    (first
      | (go_at_call 37; refine (number_int _ _ _ (by omega) (by omega) (by omega) (by omega)).mono ?_; rintro e w' ⟨rfl, hc⟩))
  rename_i wa ca wb cb wc cc wd' cd we ce hH
  have cx : Chg (fun _ => False) w1 w' := (((((((Chg.refl _ w1).drew).trans ca).trans cb).trans cc).trans cd).trans ce).trans hc
  have q2 := q1.chg cx
  have hc2 := hc1.trans cx
  clear hc1 ca cb cc cd ce hc hH q1 cx ha1 ha2 ha3 ha4 ha5 ha6 k0 k1 k34 k35 k36 k37 hcv1 hcv2 hcv3
  obtain ⟨w2, hw2'⟩ : ∃ x, w' = x := ⟨_, rfl⟩
  subst w'
  obtain ⟨D, hD⟩ : ∃ D, D = A ++ (Pk.be 8 (m.ver : Int) ++ (Pk.be 8 (m.cnt : Int) ++ (Pk.be 8 (m.rver : Int) ++ (Pk.be 4 (m.page : Int) ++ (Pk.be 4 (m.list : Int) ++ Pk.be 4 (m.pages : Int)))))) := ⟨_, rfl⟩
  have hDl : D.length = 44 := by rw [hD]; simp [Pk.be_length, hAl]
  have HD := Lib.hid hD
  rw [← hD]
  clear hD
  go_wp2_with fail
  go_loopw [5, 6] (fun sv iv wr => ∃ k : Nat, k ≤ 32 ∧ sv = S (D ++ m.sum.take k) ∧ iv = .int .i64 k ∧ Chg (fun _ => False) w2 wr) (fun _ iv _ => 32 - (intOf iv).toNat)
  case atStart => exact ⟨0, by omega, by simp, rfl, Chg.refl _ w2⟩
  case round =>
    obtain ⟨k, hk, rfl, rfl, hc⟩ := hrel
    have q3 := q2.chg hc
    by_cases hk2 : k < 32
    · have hcs := MCells.of_blk q3.m Hms.out
      obtain ⟨b, hb⟩ : ∃ b, m.sum[k]? = some b := ⟨m.sum[k]'(by rw [Hms.out]; exact hk2), List.getElem?_eq_getElem _⟩
      have kk := hcs.sum k b hb
      rw [Nat.zero_add] at kk
      have hcv := fun w => cv_new w b.toNat b rfl
      have hadd := fun w => addS (D ++ m.sum.take k) [b] (by simp [hDl]; have := Hms.out; omega) w
      have Ht := Lib.hid (show D ++ m.sum.take (k + 1) = D ++ m.sum.take k ++ [b] from by
        rw [List.append_assoc]; congr 1; rw [List.take_add_one, hb]; rfl)
      clear hb hcs
      go_wp2_with fail
      go_roundw
      case rel => exact ⟨k + 1, by omega, by rw [Ht.out, List.append_assoc], by go_num, hc.alloc _⟩
      case measure => simp [intOf]; omega
    · obtain rfl : k = 32 := by omega
      have HB2 := Lib.hid (show D ++ m.sum.take 32 = B from by
        rw [List.take_of_length_le (by rw [Hms.out]; exact Nat.le_refl _), HB.out, HD.out, HA.out]
        simp only [List.append_assoc]; rfl)
      rw [HB2.out]
      go_wp2_with fail
      have hcr := Crc.u32_crc B
      have hBl : B.length = 76 := by rw [HB.out]; simp [Pk.be_length, Hms.out]
      unfold Crc.U32 at hcr
      refine (rcrc_calls B _ (by omega)).mono ?_
      rintro e w' ⟨rfl, rfl⟩
      have hcv4 : IntKind.u64.wrap (Crc.crc B : Int) = (Crc.crc B : Int) := by rw [IntKind.wrap_u64]; omega
      have hadd := fun w => addS B (Pk.be 4 (Crc.crc B : Int)) (by rw [Pk.be_length]; omega) w
      go_wp2_with fail
      refine (number_int _ 4 _ (by omega) (by omega) (by omega) (by omega)).mono ?_
      rintro e w' ⟨rfl, hc9⟩
      go_wp2_with fail
      go_ret
      exact ⟨(show Ending.returned (S (B ++ Pk.be 4 (Crc.crc B : Int))) = .returned (S R) from by rw [Hrec.out]), (hc2.trans hc).trans hc9⟩
end Go.Proofs.YtlhdbkbgedlmnaaDoor
