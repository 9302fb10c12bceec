/-
  Layer 6: the program's record and Encode. Printed by gen_mrec.py.
-/
import Derived.Test.YtlhdbkbgedlmnaaDoorMchk3
import Derived.Test.YtlhdbkbgedlmnaaDoorMnum
import Derived.Test.YtlhdbkbgedlmnaaDoorCrc
import Derived.Test.YtlhdbkbgedlmnaaDoorPut8
import Derived.Test.YtlhdbkbgedlmnaaDoorPut
import Derived.Test.YtlhdbkbgedlmnaaDoorMine
namespace Go.Proofs.YtlhdbkbgedlmnaaDoor
open Go.RowKit
set_option linter.unusedVariables false
attribute [local go_sem ↓] loadDig_eq ldM_eq

/-- the cells of a frame and of a record in the memory -/
structure FM (w : World) (gf gm : Nat) (f : Mt.F) (m : Mt.M) : Prop where
  f : Blk w gf 23 #[.int .i64 f.page, .int .i64 f.width]
  m : Blk w gm 31 (mcells m)
theorem FM.chg {w w' : World} {gf gm : Nat} {f : Mt.F} {m : Mt.M} (h : FM w gf gm f m) (hc : Chg (fun _ => False) w w') : FM w' gf gm f m := ⟨h.f.chg hc (fun h => h), h.m.chg hc (fun h => h)⟩
theorem FM.f0 {w : World} {gf gm : Nat} {f : Mt.F} {m : Mt.M} (h : FM w gf gm f m) : w.cell? ⟨gf, 0, none⟩ = some (.int .i64 f.page) := by rw [h.f.cell]; rfl
theorem FM.f1 {w : World} {gf gm : Nat} {f : Mt.F} {m : Mt.M} (h : FM w gf gm f m) : w.cell? ⟨gf, 1, none⟩ = some (.int .i64 f.width) := by rw [h.f.cell]; rfl
theorem FM.at_ {w : World} {gf gm : Nat} {f : Mt.F} {m : Mt.M} (h : FM w gf gm f m) (hs : m.sum.length = 32) : w.cell? ⟨gm, 0, none⟩ = some (.int .u64 m.ver) ∧ w.cell? ⟨gm, 1, none⟩ = some (.int .u32 m.page) ∧
    w.cell? ⟨gm, 34, none⟩ = some (.int .u64 m.cnt) ∧ w.cell? ⟨gm, 35, none⟩ = some (.int .u64 m.rver) ∧ w.cell? ⟨gm, 36, none⟩ = some (.int .u32 m.list) ∧ w.cell? ⟨gm, 37, none⟩ = some (.int .u32 m.pages) := by
  have h := MCells.of_blk h.m hs
  exact ⟨h.c0, h.c1, h.c34, h.c35, h.c36, h.c37⟩
theorem FM.dig {w : World} {gf gm : Nat} {f : Mt.F} {m : Mt.M} (h : FM w gf gm f m) (hs : m.sum.length = 32) : (loadDig (.pointer (some ⟨gm, 2, none⟩))).run Tryd.prog w = .ok (.agg (bys m.sum).toArray) w := by
  have hcs := MCells.of_blk h.m hs
  refine ldAgg_of Tryd.underlying27 rfl (by rw [show (bys m.sum).toArray.size = 32 by simp [bys, hs]]; exact info_digest) (fun j v hv => ?_)
  rw [List.getElem?_toArray] at hv
  unfold bys at hv
  rw [List.getElem?_map, Option.map_eq_some_iff] at hv
  obtain ⟨b, hb1, rfl⟩ := hv
  have := hcs.sum j b hb1
  rwa [Nat.zero_add] at this
theorem FM.ld {w : World} {gf gm : Nat} {f : Mt.F} {m : Mt.M} (h : FM w gf gm f m) (hs : m.sum.length = 32) : (ldAgg 31 (.pointer (some ⟨gm, 0, none⟩))).run Tryd.prog w = .ok (.agg (mcells m)) w := ldM_of h.m hs
theorem FM.new (w : World) (f : Mt.F) (m : Mt.M) : FM ((w.alloc (.cells #[.int .i64 f.page, .int .i64 f.width] 23)).alloc (.cells (mcells m) 31)) w.heap.size (w.heap.size + 1) f m := by
  refine ⟨(Blk.new w _ _).alloc _, ?_⟩
  have := Blk.new (w.alloc (.cells #[.int .i64 f.page, .int .i64 f.width] 23)) 31 (mcells m)
  have e : (w.alloc (.cells #[.int .i64 f.page, .int .i64 f.width] 23)).heap.size = w.heap.size + 1 := by simp
  rwa [e] at this
theorem lg_pow {f : Mt.F} (h : Mt.mayF f = true) : ∃ N : Nat, f.page = (N : Int) ∧ N = 2 ^ Mt.lg f.page ∧ Mt.lg f.page ≤ 13 := by
  obtain ⟨hp, -⟩ := Mt.mayF_iff.1 h
  rcases hp with e | e | e | e
  · exact ⟨1024, e, by rw [e]; rfl, by rw [e]; decide⟩
  · exact ⟨2048, e, by rw [e]; rfl, by rw [e]; decide⟩
  · exact ⟨4096, e, by rw [e]; rfl, by rw [e]; decide⟩
  · exact ⟨8192, e, by rw [e]; rfl, by rw [e]; decide⟩

set_option maxHeartbeats 4000000 in
set_option maxRecDepth 100000 in
theorem record_calls (f : Mt.F) (m : Mt.M) (w : World) (hm : m.Ok) (hF : Mt.mayF f = true) :
    Calls Tryd.prog 30 #[FV f, .agg (mcells m)] w fun e w' => e = .returned (S (Mt.rec f m)) ∧ Chg (fun _ => False) w w' := by
  have Hms := Lib.hid hm.sum
  obtain ⟨N, hN1, hN2, hk⟩ := lg_pow hF
  obtain ⟨-, hw1, hw2⟩ := Mt.mayF_iff.1 hF
  have q0 := FM.new w f m
  have hch := ((Chg.refl (fun _ => False) w).alloc (.cells #[.int .i64 f.page, .int .i64 f.width] 23)).alloc (.cells (mcells m) 31)
  have Hrec := Lib.hid (show Mt.rec f m = Mt.body f m ++ Pk.be 4 (Crc.crc (Mt.body f m)) from rfl)
  obtain ⟨R, hR⟩ : ∃ R, R = Mt.rec f m := ⟨_, rfl⟩
  obtain ⟨B, hB⟩ : ∃ B, B = Mt.body f m := ⟨_, rfl⟩
  have hBl : B.length = 76 := by rw [hB]; exact Mt.body_length f m hm.sum
  rw [← hR, ← hB] at Hrec
  rw [← hR]
  unfold Mt.body at hB
  have HB := Lib.hid hB
  have HBl := Lib.hid hBl
  clear hB hBl hR
  generalize Mt.lg f.page = lgk at *
  obtain ⟨p, wd⟩ := f
  dsimp only at *
  obtain ⟨n, hn⟩ : ∃ n : Nat, n = wd.toNat := ⟨_, rfl⟩
  obtain rfl : wd = (n : Int) := by omega
  obtain rfl := hN1
  have HN2 := Lib.hid hN2
  clear hF hn hN2 hm
  go_enter Tryd.func30, Tryd.ntmps30
  go_wp2_with fail
  generalize (w.alloc (.cells #[.int .i64 (N : Int), .int .i64 (n : Int)] 23)).alloc (.cells (mcells m) 31) = w0 at *
  refine (new_calls w0).mono ?_
  rintro e w1 ⟨rfl, h1, hb1, hz1⟩
  have c1 := Chg.of_below hb1 (fun _ => False)
  have m1 : Mine w0 w1 w0.heap.size (.slice none 0 0) [] := ⟨h1, c1, Nat.le_refl _, fun k h => by simp [Value.ownBlock] at h⟩
  obtain ⟨g, hg⟩ : ∃ g, w0.heap.size = g := ⟨_, rfl⟩
  rw [hg] at m1 ⊢
  have Hg := Lib.hid (And.intro hg hz1)
  clear h1 hb1 hz1 hg c1
  have q1 := q0.chg m1.chg
  have kf0 := q1.f0
  have kf1 := q1.f1
  obtain ⟨k0, k1, k34, k35, k36, k37⟩ := q1.at_ Hms.out
  dsimp only at kf0 kf1
  go_wp2_with fail
  clear q1 kf0 kf1 k0 k1 k34 k35 k36 k37
  refine (put_uint32 g _ _ _ _ m1.is (by simp)).mono ?_
  rintro e w2 ⟨rfl, hw⟩
  obtain ⟨v1, m1⟩ := m1.wrote hw
  clear hw
  rw [List.nil_append] at m1
  have q1 := q0.chg m1.chg
  have kf0 := q1.f0
  have kf1 := q1.f1
  obtain ⟨k0, k1, k34, k35, k36, k37⟩ := q1.at_ Hms.out
  dsimp only at kf0 kf1
  go_wp2_with fail
  refine (log2_pow lgk N HN2 hk _).mono ?_
  rintro e w' ⟨rfl, rfl⟩
  clear q1 kf0 kf1 k0 k1 k34 k35 k36 k37
  have q1 := q0.chg m1.chg
  have kf0 := q1.f0
  have kf1 := q1.f1
  obtain ⟨k0, k1, k34, k35, k36, k37⟩ := q1.at_ Hms.out
  dsimp only at kf0 kf1
  go_wp2_with fail
  clear q1 kf0 kf1 k0 k1 k34 k35 k36 k37
  refine (put_uint8 g _ _ _ _ m1.is (by simp [Pk.be_length]) (Lib.hid (by omega))).mono ?_
  rintro e w2 ⟨rfl, hw⟩
  obtain ⟨v1, m1⟩ := m1.wrote hw
  clear hw
  have q1 := q0.chg m1.chg
  have kf0 := q1.f0
  have kf1 := q1.f1
  obtain ⟨k0, k1, k34, k35, k36, k37⟩ := q1.at_ Hms.out
  dsimp only at kf0 kf1
  go_wp2_with fail
  clear q1 kf0 kf1 k0 k1 k34 k35 k36 k37
  refine (put_uint8 g _ _ _ _ m1.is (by simp [Pk.be_length]) (Lib.hid (by omega))).mono ?_
  rintro e w2 ⟨rfl, hw⟩
  obtain ⟨v1, m1⟩ := m1.wrote hw
  clear hw
  have q1 := q0.chg m1.chg
  have kf0 := q1.f0
  have kf1 := q1.f1
  obtain ⟨k0, k1, k34, k35, k36, k37⟩ := q1.at_ Hms.out
  dsimp only at kf0 kf1
  go_wp2_with fail
  clear q1 kf0 kf1 k0 k1 k34 k35 k36 k37
  refine (put_uint16 g _ _ _ _ m1.is (by simp [Pk.be_length])).mono ?_
  rintro e w2 ⟨rfl, hw⟩
  obtain ⟨v1, m1⟩ := m1.wrote hw
  clear hw
  have q1 := q0.chg m1.chg
  have kf0 := q1.f0
  have kf1 := q1.f1
  obtain ⟨k0, k1, k34, k35, k36, k37⟩ := q1.at_ Hms.out
  dsimp only at kf0 kf1
  go_wp2_with fail
  clear q1 kf0 kf1 k0 k1 k34 k35 k36 k37
  refine (put_uint64 g _ _ _ _ m1.is (by simp [Pk.be_length])).mono ?_
  rintro e w2 ⟨rfl, hw⟩
  obtain ⟨v1, m1⟩ := m1.wrote hw
  clear hw
  have q1 := q0.chg m1.chg
  have kf0 := q1.f0
  have kf1 := q1.f1
  obtain ⟨k0, k1, k34, k35, k36, k37⟩ := q1.at_ Hms.out
  dsimp only at kf0 kf1
  go_wp2_with fail
  clear q1 kf0 kf1 k0 k1 k34 k35 k36 k37
  refine (put_uint64 g _ _ _ _ m1.is (by simp [Pk.be_length])).mono ?_
  rintro e w2 ⟨rfl, hw⟩
  obtain ⟨v1, m1⟩ := m1.wrote hw
  clear hw
  have q1 := q0.chg m1.chg
  have kf0 := q1.f0
  have kf1 := q1.f1
  obtain ⟨k0, k1, k34, k35, k36, k37⟩ := q1.at_ Hms.out
  dsimp only at kf0 kf1
  go_wp2_with fail
  clear q1 kf0 kf1 k0 k1 k34 k35 k36 k37
  refine (put_uint64 g _ _ _ _ m1.is (by simp [Pk.be_length])).mono ?_
  rintro e w2 ⟨rfl, hw⟩
  obtain ⟨v1, m1⟩ := m1.wrote hw
  clear hw
  have q1 := q0.chg m1.chg
  have kf0 := q1.f0
  have kf1 := q1.f1
  obtain ⟨k0, k1, k34, k35, k36, k37⟩ := q1.at_ Hms.out
  dsimp only at kf0 kf1
  go_wp2_with fail
  clear q1 kf0 kf1 k0 k1 k34 k35 k36 k37
  refine (put_uint32 g _ _ _ _ m1.is (by simp [Pk.be_length])).mono ?_
  rintro e w2 ⟨rfl, hw⟩
  obtain ⟨v1, m1⟩ := m1.wrote hw
  clear hw
  have q1 := q0.chg m1.chg
  have kf0 := q1.f0
  have kf1 := q1.f1
  obtain ⟨k0, k1, k34, k35, k36, k37⟩ := q1.at_ Hms.out
  dsimp only at kf0 kf1
  go_wp2_with fail
  clear q1 kf0 kf1 k0 k1 k34 k35 k36 k37
  refine (put_uint32 g _ _ _ _ m1.is (by simp [Pk.be_length])).mono ?_
  rintro e w2 ⟨rfl, hw⟩
  obtain ⟨v1, m1⟩ := m1.wrote hw
  clear hw
  have q1 := q0.chg m1.chg
  have kf0 := q1.f0
  have kf1 := q1.f1
  obtain ⟨k0, k1, k34, k35, k36, k37⟩ := q1.at_ Hms.out
  dsimp only at kf0 kf1
  go_wp2_with fail
  clear q1 kf0 kf1 k0 k1 k34 k35 k36 k37
  refine (put_uint32 g _ _ _ _ m1.is (by simp [Pk.be_length])).mono ?_
  rintro e w2 ⟨rfl, hw⟩
  obtain ⟨v1, m1⟩ := m1.wrote hw
  clear hw
  have q1 := q0.chg m1.chg
  have kd := q1.dig Hms.out
  go_wp2_with fail
  clear q1 kd
  refine (wdigest_calls g 32 m.sum _ _ _ m1.is Hms.out (by simp [Pk.be_length])).mono ?_
  rintro e w2 ⟨rfl, hw⟩
  obtain ⟨v1, m1⟩ := m1.wrote hw
  clear hw
  rw [show m.sum.take (wd 32) = m.sum from List.take_of_length_le (by rw [Hms.out]; decide)] at m1
  rw [← HB.out] at m1
  go_wp2_with fail
  refine (string_calls g _ _ _ m1.is).mono ?_
  rintro e w' ⟨rfl, rfl⟩
  have hl2 : Lst (w2.alloc (.cells #[S B] 9)) (some ⟨w2.heap.size, 0, none⟩) 1 (strs [B]) := Lst.new w2 9 [S B]
  have m2 := m1.below ((Chg.refl (fun _ => False) w2).alloc (.cells #[S B] 9))
  have hcr := Crc.u32_crc B
  go_wp2_with fail
  refine (crc_calls _ 1 1 [B] _ hl2 (by omega) (by simp [HBl.out])).mono ?_
  rintro e w' ⟨rfl, rfl⟩
  rw [show [B].flatten = B by simp]
  clear hl2 m1
  go_wp2_with fail
  refine (put_uint32 g _ _ _ _ m2.is (by rw [HBl.out]; omega)).mono ?_
  rintro e w3 ⟨rfl, hw⟩
  obtain ⟨v3, m3⟩ := m2.wrote hw
  clear hw m2
  rw [← Hrec.out] at m3
  go_wp2_with fail
  refine (string_calls g _ _ _ m3.is).mono ?_
  rintro e w' ⟨rfl, rfl⟩
  go_wp2_with fail
  go_ret
  exact ⟨rfl, hch.trans m3.chg⟩
end Go.Proofs.YtlhdbkbgedlmnaaDoor
