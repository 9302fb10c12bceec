/-
  Layer 3: the program's lay, Pack.
-/
import Derived.Test.YtdicelibjpmglaaGreatDoorTk
import Derived.Deep.AppendLies
namespace Go.Proofs.YtdicelibjpmglaaGreatDoor
open Go.RowKit
set_option linter.unusedVariables false
set_option linter.unusedSimpArgs false
attribute [local go_sem] run_store_float
open Tp (It)

theorem rep_skip (b : UInt8) (h : b ≠ 0) (k : Nat) (l : List UInt8) : Lib.replaceK [0] [0, 255] k (b :: l) = b :: Lib.replaceK [0] [0, 255] k l := by
  cases k with
  | zero => rfl
  | succ k =>
    have hp : ([0] : List UInt8).isPrefixOf (b :: l) = false := by
      simp only [List.isPrefixOf, Bool.and_true]
      rw [beq_eq_false_iff_ne]; exact Ne.symm h
    have hix : Lib.index (b :: l) [0] = if Lib.index l [0] == -1 then -1 else Lib.index l [0] + 1 := by
      rw [Lib.index, hp]; rfl
    have hge := Lib.index_ge l [0]
    by_cases hm : Lib.index l [0] = -1
    · have e1 : (Lib.index l [0] == -1) = true := by rw [hm]; rfl
      rw [e1] at hix
      have e2 : (Lib.index (b :: l) [0] == -1) = true := by rw [hix]; rfl
      rw [Lib.replaceK, Lib.replaceK, if_pos e1, if_pos e2]
    · obtain ⟨i, hi⟩ : ∃ i : Nat, Lib.index l [0] = i := ⟨(Lib.index l [0]).toNat, by omega⟩
      have e1 : (Lib.index l [0] == -1) = false := by rw [beq_eq_false_iff_ne]; exact hm
      rw [e1, hi] at hix
      have e2 : Lib.index (b :: l) [0] = ((i + 1 : Nat) : Int) := by rw [hix]; rfl
      rw [Lib.replaceK_hit _ _ _ _ _ hi, Lib.replaceK_hit _ _ _ _ _ e2]
      simp
theorem rep_esc (s : List UInt8) : Lib.replaceK [0] [0, 255] (Lib.count s [0]) s = Tp.esc s := by
  induction s with
  | nil => rfl
  | cons b l ih =>
    by_cases hb : b = 0
    · subst hb
      have hix : Lib.index (0 :: l) [0] = ((0 : Nat) : Int) := by
        rw [Lib.index]; simp [List.isPrefixOf]
      rw [Lib.count_cons_eq, Nat.add_comm, Lib.replaceK_hit _ _ _ _ _ hix]
      simp only [List.take_zero, List.nil_append, List.length_cons, List.length_nil, Nat.zero_add, List.drop_succ_cons, List.drop_zero, ih]
      simp [Tp.esc]
    · rw [Lib.count_cons_ne b 0 l hb, rep_skip b hb, ih]
      simp [Tp.esc, hb]
theorem rep_all (s : List UInt8) : Lib.replaceAll s [0] [0, 255] = Tp.esc s := by
  unfold Lib.replaceAll Lib.replace Lib.replaceNum
  rw [if_neg (by decide), if_pos (.inl (by decide)), rep_esc]
theorem rep_calls (t : List UInt8) (m : Int) (w : World) (ht : t.length ≤ 1048576) (hm : w.cell? ⟨1, 0, none⟩ = some (.int .i64 m)) :
    Calls Tryz.prog 82 #[S t, S [0], S [0, 255]] w fun e w' => e = .returned (S (Tp.esc t)) ∧ Chg (fun _ => False) w w' := by
  have hz : (⟨t.toArray⟩ : ByteArray).size = t.length := by simp [ByteArray.size]
  have hc : Lib.countB ⟨t.toArray⟩ ⟨[(0 : UInt8)].toArray⟩ = t.count 0 := Lib.count_one 0 t
  have hcl : t.count 0 ≤ t.length := List.count_le_length
  refine (Tryz.strings_ReplaceAll ⟨t.toArray⟩ ⟨[(0 : UInt8)].toArray⟩ ⟨[(0 : UInt8), 255].toArray⟩ m w (by rw [hz]; omega) hm (by decide) (by rw [hz, hc, show (⟨[(0 : UInt8), 255].toArray⟩ : ByteArray).size = 2 from rfl]; omega)).mono ?_
  rintro e w' ⟨rfl, hb⟩
  refine ⟨?_, Chg.of_below hb _⟩
  have : Lib.replaceAll t [0] [0, 255] = Tp.esc t := rep_all t
  show Ending.returned (.string ⟨(Lib.replaceAll t [0] [0, 255]).toArray⟩) = _
  rw [this]
theorem Reads.one2 (w : World) (o1 o2 : Obj) (o : Value) (t : TypeId) (c : Array Value) (hc : c = #[o]) : Reads (((w.alloc o1).alloc o2).alloc (.cells c t)) (w.heap.size + 1 + 1 + 1) 1 (some ⟨w.heap.size + 1 + 1, 0, none⟩) 1 [o] := by
  have := Reads.one ((w.alloc o1).alloc o2) o t c hc
  rwa [show ((w.alloc o1).alloc o2).heap.size = w.heap.size + 1 + 1 by simp] at this
theorem Reads.of_blk {w : World} {g : Nat} {t : TypeId} {o : Value} (hb : Blk w g t #[o]) : Reads w (g + 1) 1 (some ⟨g, 0, none⟩) 1 [o] :=
  ⟨rfl, fun _ => ⟨_, rfl, Nat.lt_succ_self _, fun j u hu => by
    have hadd : (⟨g, 0, none⟩ : Addr).add j = ⟨g, j, none⟩ := by unfold Addr.add; split <;> simp_all
    rw [hadd, hb.cell]
    simpa using hu⟩⟩
theorem Reads.two (w : World) (a b : Value) (t : TypeId) (c : Array Value) (hc : c = #[a, b]) : Reads (w.alloc (.cells c t)) (w.heap.size + 1) 1 (some ⟨w.heap.size, 0, none⟩) 2 [a, b] :=
  ⟨rfl, fun _ => ⟨_, rfl, Nat.lt_succ_self _, fun j u hu => by
    have hadd : (⟨w.heap.size, 0, none⟩ : Addr).add j = ⟨w.heap.size, j, none⟩ := by unfold Addr.add; split <;> simp_all
    rw [hadd, (Blk.new w t c).cell, hc]
    simpa using hu⟩⟩
theorem byt_cons (k : Nat) (b : Bool) (n : Int) (f : Nat) (t : List UInt8) (ls l : List It) : Tp.byt (.mk k b n f t ls :: l) = Tp.one k b n f t (Tp.byt ls) ++ Tp.byt l := by rw [Tp.byt]

theorem be_add (k : Nat) : ∀ (x m : Int), Pk.be k (x + m * 256 ^ k) = Pk.be k x := by
  induction k with
  | zero => intro x m; rfl
  | succ k ih =>
    intro x m
    have hp : (0 : Int) < 256 ^ k := Int.pow_pos (by omega)
    have e1 : x + m * 256 ^ (k + 1) = x + (m * 256) * 256 ^ k := by rw [Int.pow_succ, Int.mul_comm (256 ^ k) 256, ← Int.mul_assoc]
    simp only [Pk.be]
    rw [e1, ih, Int.add_mul_ediv_right _ _ (by omega)]
    congr 3
    omega
theorem be_mod (q : Nat) (hq : q ≤ 8) (x c : Int) : Pk.be q (x + 18446744073709551616 * c) = Pk.be q x := by
  have e : (18446744073709551616 : Int) = 256 ^ (8 - q) * 256 ^ q := by
    rw [← Int.pow_add, show 8 - q + q = 8 by omega]; decide
  rw [e, show (256 : Int) ^ (8 - q) * 256 ^ q * c = (256 ^ (8 - q) * c) * 256 ^ q by rw [Int.mul_assoc, Int.mul_comm (256 ^ q) c, ← Int.mul_assoc], be_add]
theorem be_same (q : Nat) (hq : q ≤ 8) {x : Int} {z : Nat} (h : IntKind.u64.wrap x = (z : Int)) : Pk.be q z = Pk.be q x := by
  rw [IntKind.wrap_u64] at h
  have : x = (z : Int) + 18446744073709551616 * (x / 18446744073709551616) := by omega
  rw [this, be_mod q hq]
theorem be_dec (q : Nat) (hq : q ≤ 8) {x : Int} {z : Nat} (h : IntKind.u64.wrap (IntKind.i64.wrap (x - 1)) = (z : Int)) : Pk.be q z = Pk.be q (x - 1) := by
  refine be_same q hq ?_
  rw [← h, IntKind.wrap_u64, IntKind.wrap_u64]
  simp only [IntKind.wrap, IntKind.bits, IntKind.signed]
  simp
  omega
theorem tag_lo (q : Nat) (hq : q ≤ 8) : [Value.int .u8 (IntKind.u8.wrap (IntKind.i64.wrap (20 - (q : Int))))] = bys [UInt8.ofNat (20 - q)] := by
  rcases (show q = 0 ∨ q = 1 ∨ q = 2 ∨ q = 3 ∨ q = 4 ∨ q = 5 ∨ q = 6 ∨ q = 7 ∨ q = 8 by omega) with rfl | rfl | rfl | rfl | rfl | rfl | rfl | rfl | rfl <;> rfl
theorem tag_hi (q : Nat) (hq : q ≤ 8) : [Value.int .u8 (IntKind.u8.wrap (IntKind.i64.wrap (20 + (q : Int))))] = bys [UInt8.ofNat (20 + q)] := by
  rcases (show q = 0 ∨ q = 1 ∨ q = 2 ∨ q = 3 ∨ q = 4 ∨ q = 5 ∨ q = 6 ∨ q = 7 ∨ q = 8 by omega) with rfl | rfl | rfl | rfl | rfl | rfl | rfl | rfl | rfl <;> rfl
theorem Reads.one1 (w : World) (o1 : Obj) (o : Value) (t : TypeId) (c : Array Value) (hc : c = #[o]) : Reads ((w.alloc o1).alloc (.cells c t)) (w.heap.size + 1 + 1) 1 (some ⟨w.heap.size + 1, 0, none⟩) 1 [o] := by
  have := Reads.one (w.alloc o1) o t c hc
  rwa [show (w.alloc o1).heap.size = w.heap.size + 1 by simp] at this

set_option maxHeartbeats 8000000 in
set_option maxRecDepth 100000 in
theorem lay_calls {w0 : World} {B : Nat} {v : Value} {l : List It} (hrow : Row w0 B v l) (m : Int) (hm0 : w0.cell? ⟨1, 0, none⟩ = some (.int .i64 m)) (hB0 : 1 < B) : ∀ (bv : Value) (xs : List UInt8) (w : World), Keep w0 B w → Tp.okB l = true → w.ownsRow B 5 1 bv xs.length (bys xs) → xs.length + (Tp.byt l).length ≤ 1000000 →
    Calls Tryz.prog 50 #[bv, v] w fun e w' => ∃ v', e = .returned v' ∧ Grew B w w' bv v' (xs ++ Tp.byt l) := by
  obtain ⟨i0, hi, hz0, hz1, hz2⟩ := info_parts info_b8
  induction hrow with
  | nil A0 cap0 hcap0 =>
    intro bv xs w hk hok hown hroom
    go_enter Tryz.func50, Tryz.ntmps50
    go_wp2_with fail
    go_loopw [0, 10] (fun av jv wr => av = bv ∧ jv = .int .i64 0 ∧ wr = w) (fun _ _ _ => 0)
    case atStart => exact ⟨rfl, rfl, rfl⟩
    case round =>
      obtain ⟨rfl, rfl, rfl⟩ := hrel
      go_wp2_with fail
      go_ret
      exact ⟨_, rfl, by rw [Tp.byt, List.append_nil]; exact Grew.refl hown⟩
  | mk gr off cap l vs hgr hl hcap hc1 hin hcells hr ih =>
    intro bv xs w hk hok hown hroom
    have Hok := Lib.hid hok
    have Hown0 := Lib.hid hown
    have hB := hk.2
    clear hok hown
    go_enter Tryz.func50, Tryz.ntmps50
    go_wp2_with fail
    go_loopw [0, 10] (fun av jv wr => ∃ (j : Nat) (ys : List UInt8), j ≤ l.length ∧ jv = .int .i64 j ∧ ys ++ Tp.byt (l.drop j) = xs ++ Tp.byt l ∧ Grew B w wr bv av ys) (fun _ jv _ => l.length - (intOf jv).toNat)
    case atStart => exact ⟨0, xs, by omega, rfl, by simp, Grew.refl Hown0.out⟩
    case round =>
      obtain ⟨j, ys, hj, rfl, hcat, hg⟩ := hrel
      rcases Nat.lt_or_ge j l.length with hlt | hge
      · obtain ⟨⟨xk, xb, xn, xf, xt, xl⟩, hx⟩ : ∃ x, l[j]? = some x := ⟨_, List.getElem?_eq_getElem hlt⟩
        obtain ⟨xv, hxv⟩ : ∃ v, vs[j]? = some v := ⟨_, List.getElem?_eq_getElem (by omega)⟩
        have hin1 := hin xk xb xn xf xt xl (List.mem_of_getElem? hx)
        obtain ⟨hm, hokx⟩ := Tp.okB_mem (Hok.out) (List.mem_of_getElem? hx)
        have hxk := Tp.mayB_kind hm
        have hk' := hg.keep hk (Nat.le_refl _) Hown0.out
        have hcell : ∀ q u, (icells xk xb xn xf xt xv)[q]? = some u → wr.cell? ⟨gr, off + j * 6 + q, none⟩ = some u := fun q u hq => by
          rw [hk'.1 _ hgr]; exact hcells j xk xb xn xf xt xl xv hx hxv q u hq
        have c0 := hcell 0 _ rfl
        have c1 := hcell 1 _ rfl
        have c2 := hcell 2 _ rfl
        have c3 := hcell 3 _ rfl
        have c4 := hcell 4 _ rfl
        have c5 := hcell 5 _ rfl
        obtain ⟨A, xcap, rfl, hxc1, hxc2⟩ := (hr j xk xb xn xf xt xl xv hx hxv).slice
        rw [Nat.add_zero] at c0
        rw [drop_get hx, byt_cons, ← List.append_assoc] at hcat
        have hroom2 : ys.length + (Tp.one xk xb xn xf xt (Tp.byt xl)).length ≤ 1000000 := by
          have := congrArg List.length hcat
          simp only [List.length_append] at this
          omega
        have HI := Lib.hid (fun (bv2 : Value) (ys2 : List UInt8) (w2 : World) (hk2 : Keep w0 B w2) => ih j xk xb xn xf xt xl _ hx hxv bv2 ys2 w2 hk2 hokx)
        have hown1 := hg.own
        have hsz := hg.chg.size
        have hB2 : B ≤ wr.heap.size := by omega
        have hlt1 := fun k hk => (hown1.lt k hk).2
        have Hin := Lib.hid hin1
        have Hcat := Lib.hid hcat
        have Hg := Lib.hid hg
        have Hk' := Lib.hid hk'
        have Hlt1 := Lib.hid hlt1
        clear hin1 hk' hk hin hcells hr ih hx hxv hg hl hcell hcat hm hokx hlt1 hroom
        rcases (show xk = 1 ∨ xk = 2 ∨ xk = 3 ∨ xk = 4 ∨ xk = 5 ∨ xk = 6 by omega) with rfl | rfl | rfl | rfl | rfl | rfl
        · rw [Tp.one1] at hroom2
          have hys : ys.length ≤ 999999 := by simp at hroom2; omega
          clear hroom2
          go_wp2_with (at_builtin; refine wpList_append_any _ rfl (.tmp 18) (.tmp 19) _ rfl B 5 i0 _ 1 1 Tryz.underlying51 hi hz0 hz1 hz2 rfl (by omega) _ ys.length (bys ys) rfl ((hown1.alloc _).alloc _) (wr.heap.size + 1 + 1) (some ⟨wr.heap.size + 1, 0, none⟩) 1 1 [_] rfl (Reads.one1 _ _ _ _ _ rfl) (by simp [Value.oneCell']) (by unfold maxLen; omega) (by omega) (by simp; omega) ?_; intro v3 w3 hown3 hgr3 hat)
          go_round
          case rel =>
            have h1 := Hcat.out
            rw [Tp.one1] at h1
            exact ⟨j + 1, ys ++ [1], by omega, by go_num, h1, Grew.step Hg.out (((Chg.refl _ _).alloc _).alloc _) hown3 rfl hgr3 (fun k hk => (own_at hat k hk).imp id (fun h => by simp at h; omega))⟩
          case measure => simp [intOf]; omega
        · rw [Tp.one2] at hroom2
          have hys : ys.length ≤ 999999 := by simp at hroom2; omega
          have ht := tru_le xb
          have hu8 : IntKind.u8.wrap (2 + Tp.tru xb) = ((if xb then (3 : UInt8) else 2).toNat : Int) := by cases xb <;> decide
          clear hroom2
          go_wp2_with fail
          refine (truth_calls _ _).mono ?_
          rintro e w' ⟨rfl, rfl⟩
          go_wp2_with (at_builtin; refine wpList_append_any _ rfl (.tmp 23) (.tmp 29) _ rfl B 5 i0 _ 1 1 Tryz.underlying51 hi hz0 hz1 hz2 rfl (by omega) _ ys.length (bys ys) rfl ((hown1.alloc _).alloc _) (wr.heap.size + 1 + 1) (some ⟨wr.heap.size + 1, 0, none⟩) 1 1 [_] rfl (Reads.one1 _ _ _ _ _ rfl) (by simp [Value.oneCell']) (by unfold maxLen; omega) (by omega) (by simp; omega) ?_; intro v3 w3 hown3 hgr3 hat)
          go_round
          case rel =>
            have h1 := Hcat.out
            rw [Tp.one2] at h1
            exact ⟨j + 1, ys ++ [if xb then 3 else 2], by omega, by go_num, h1, Grew.step Hg.out (((Chg.refl _ _).alloc _).alloc _) hown3 (by cases xb <;> rfl) hgr3 (fun k hk => (own_at hat k hk).imp id (fun h => by simp at h; omega))⟩
          case measure => simp [intOf]; omega
        · rw [Tp.one3] at hroom2
          obtain ⟨hk0, hn0, hn1, hf, ht⟩ := Hin.out
          have hnb := Tp.nb_le xn.natAbs
          have HW := Lib.hid (fun w => width_calls xn w hn0 hn1)
          have hib : Tp.intB xn = UInt8.ofNat (if 0 ≤ xn then 20 + Tp.nb xn.natAbs else 20 - Tp.nb xn.natAbs) :: Pk.be (Tp.nb xn.natAbs) (if 0 ≤ xn then xn else xn - 1) := by unfold Tp.intB; split <;> rfl
          rw [hib] at hroom2
          have hys : ys.length ≤ 999999 := by simp at hroom2; omega
          obtain ⟨q, hq⟩ : ∃ q : Nat, Tp.nb xn.natAbs = q := ⟨_, rfl⟩
          rw [hq] at HW hnb hib
          have Hib := Lib.hid hib
          have Nb := Lib.hid (Blk.new wr 40 #[.int .u8 3, .bool xb, .int .i64 xn, .float .f64 xf, S xt, .slice A xl.length xcap])
          have hne : some wr.heap.size ≠ u0.ownBlock := fun h => absurd (Hlt1.out _ h.symm) (Nat.lt_irrefl _)
          clear hroom2 hib hq
          rcases Int.lt_or_le xn 0 with hneg | hpos
          · have d0 : decide (xn < 0) = true := by rw [decide_eq_true_iff]; exact hneg
            obtain ⟨z, hz⟩ : ∃ z : Nat, IntKind.u64.wrap (IntKind.i64.wrap (xn - 1)) = (z : Int) := ⟨(IntKind.u64.wrap (IntKind.i64.wrap (xn - 1))).toNat, by rw [IntKind.wrap_u64]; omega⟩
            have hzu : U64 z := by rw [IntKind.wrap_u64] at hz; unfold U64; omega
            have Hbe := Lib.hid (show Pk.be q z = Pk.be q (xn - 1) from be_dec q hnb hz)
            have hib := Hib.out
            rw [if_neg (by omega), if_neg (by omega)] at hib
            have Hib2 := Lib.hid hib
            clear hib hneg hn0 hn1 hk0 hf ht
            go_wp2_with fail
            refine (HW.out _).mono ?_
            rintro e w' ⟨rfl, rfl⟩
            go_wp2_with fail
            go_region_held3 (fun w' => w'.cell? ⟨wr.heap.size, 2, none⟩ = some (.int .i64 xn))
              (first | assumption | go_keep)
              (first
                | (go_at_call 81; refine (big_calls B z q v3 (ys ++ [UInt8.ofNat (20 - q)]) _ hzu hnb ?_ ?_ ?_).mono ?_; exact Nat.le_trans hB2 (Nat.le_trans (by simp; omega) hgr3.size); exact (hg3.out).own; (simp; omega); rintro e w4 ⟨v4, rfl, hg4⟩; have hb4 := hb3.chg hg4.chg hne3; have cb4 : w4.cell? ⟨wr.heap.size, 2, none⟩ = some (.int .i64 xn) := (by rw [hb4.cell]; rfl))
                | (refine step_append_any _ (by rfl) _ _ _ (by rfl) B 5 i0 _ 1 1 Tryz.underlying51 hi hz0 hz1 hz2 rfl (by omega) u0 ys.length (bys ys) (by rfl) ((hown1.alloc _).alloc _).drew (wr.heap.size + 1 + 1) (some ⟨wr.heap.size + 1, 0, none⟩) 1 1 [.int .u8 (IntKind.u8.wrap (IntKind.i64.wrap (20 - (q : Int))))] (by rfl) (Reads.one1 wr _ _ _ _ rfl).drew (by simp [Value.oneCell']) (by unfold maxLen; omega) (by omega) (by simp; omega) ?_; intro v3 w3 hown3 hgr3 hat; have hg3 := Lib.hid (Grew.step (zs := [UInt8.ofNat (20 - q)]) (Grew.refl hown1) (((Chg.refl _ _).alloc _).alloc _).drew hown3 (tag_lo q hnb) hgr3 (fun k hk => (own_at hat k hk).imp id (fun h => by simp at h; omega))); have hb3 := (((Nb.out).alloc _).drew).grown hgr3 hne; have hne3 : ¬ (v3.ownBlock = some wr.heap.size) := (fun e => by rcases own_at hat _ e with h | h; exact hne h.symm; (simp at h; omega)); have cb3 : w3.cell? ⟨wr.heap.size, 2, none⟩ = some (.int .i64 xn) := (by rw [hb3.cell]; rfl)))
            have Hf := Lib.hid ((hg3.out).trans hg4)
            clear hg4 hb4 cb4 hgr3 hat hb3 hne3 cb3 hown3
            go_wp2_with fail
            go_round
            case rel =>
              have h1 := Hcat.out
              have h2 := Hf.out
              rw [Tp.one3, Hib2.out, ← Hbe.out] at h1
              rw [List.append_assoc, List.singleton_append] at h2
              exact ⟨j + 1, _, by omega, by go_num, h1, (Hg.out).trans h2⟩
            case measure => simp [intOf]; omega
          · have d0 : decide (xn < 0) = false := by rw [decide_eq_false_iff_not]; omega
            obtain ⟨z, hz⟩ : ∃ z : Nat, IntKind.u64.wrap (xn) = (z : Int) := ⟨(IntKind.u64.wrap (xn)).toNat, by rw [IntKind.wrap_u64]; omega⟩
            have hzu : U64 z := by rw [IntKind.wrap_u64] at hz; unfold U64; omega
            have Hbe := Lib.hid (show Pk.be q z = Pk.be q (xn) from be_same q hnb hz)
            have hib := Hib.out
            rw [if_pos hpos, if_pos hpos] at hib
            have Hib2 := Lib.hid hib
            clear hib hpos hn0 hn1 hk0 hf ht
            go_wp2_with fail
            refine (HW.out _).mono ?_
            rintro e w' ⟨rfl, rfl⟩
            go_wp2_with fail
            go_region_held3 (fun w' => w'.cell? ⟨wr.heap.size, 2, none⟩ = some (.int .i64 xn))
              (first | assumption | go_keep)
              (first
                | (go_at_call 81; refine (big_calls B z q v3 (ys ++ [UInt8.ofNat (20 + q)]) _ hzu hnb ?_ ?_ ?_).mono ?_; exact Nat.le_trans hB2 (Nat.le_trans (by simp; omega) hgr3.size); exact (hg3.out).own; (simp; omega); rintro e w4 ⟨v4, rfl, hg4⟩; have hb4 := hb3.chg hg4.chg hne3; have cb4 : w4.cell? ⟨wr.heap.size, 2, none⟩ = some (.int .i64 xn) := (by rw [hb4.cell]; rfl))
                | (refine step_append_any _ (by rfl) _ _ _ (by rfl) B 5 i0 _ 1 1 Tryz.underlying51 hi hz0 hz1 hz2 rfl (by omega) u0 ys.length (bys ys) (by rfl) ((hown1.alloc _).alloc _).drew (wr.heap.size + 1 + 1) (some ⟨wr.heap.size + 1, 0, none⟩) 1 1 [.int .u8 (IntKind.u8.wrap (IntKind.i64.wrap (20 + (q : Int))))] (by rfl) (Reads.one1 wr _ _ _ _ rfl).drew (by simp [Value.oneCell']) (by unfold maxLen; omega) (by omega) (by simp; omega) ?_; intro v3 w3 hown3 hgr3 hat; have hg3 := Lib.hid (Grew.step (zs := [UInt8.ofNat (20 + q)]) (Grew.refl hown1) (((Chg.refl _ _).alloc _).alloc _).drew hown3 (tag_hi q hnb) hgr3 (fun k hk => (own_at hat k hk).imp id (fun h => by simp at h; omega))); have hb3 := (((Nb.out).alloc _).drew).grown hgr3 hne; have hne3 : ¬ (v3.ownBlock = some wr.heap.size) := (fun e => by rcases own_at hat _ e with h | h; exact hne h.symm; (simp at h; omega)); have cb3 : w3.cell? ⟨wr.heap.size, 2, none⟩ = some (.int .i64 xn) := (by rw [hb3.cell]; rfl)))
            have Hf := Lib.hid ((hg3.out).trans hg4)
            clear hg4 hb4 cb4 hgr3 hat hb3 hne3 cb3 hown3
            go_wp2_with fail
            go_round
            case rel =>
              have h1 := Hcat.out
              have h2 := Hf.out
              rw [Tp.one3, Hib2.out, ← Hbe.out] at h1
              rw [List.append_assoc, List.singleton_append] at h2
              exact ⟨j + 1, _, by omega, by go_num, h1, (Hg.out).trans h2⟩
            case measure => simp [intOf]; omega
        · rw [Tp.one4] at hroom2
          have hys : ys.length ≤ 999991 := by simp [Pk.be_length] at hroom2; omega
          have hf := Hin.out.f
          have HK := Lib.hid (fun w => key_calls xf hf w)
          have hku : U64 (Tp.key xf) := Tp.key_lt xf hf
          obtain ⟨z, hz⟩ : ∃ z : Nat, Tp.key xf = z := ⟨_, rfl⟩
          rw [hz] at HK hku
          have Hz := Lib.hid hz
          have Nb := Lib.hid (Blk.new wr 40 #[.int .u8 4, .bool xb, .int .i64 xn, .float .f64 xf, S xt, .slice A xl.length xcap])
          have hne : some wr.heap.size ≠ u0.ownBlock := fun h => absurd (Hlt1.out _ h.symm) (Nat.lt_irrefl _)
          clear hroom2 hz hf
          go_wp2_with fail
          go_region_held3 (fun w' => w'.cell? ⟨wr.heap.size, 3, none⟩ = some (.float .f64 xf))
            (first | assumption | go_keep)
            (first
              | (go_at_call 71; refine (HK.out _).mono ?_; rintro e w5 ⟨rfl, rfl⟩)
              | (go_at_call 81; refine (big_calls B z 8 v3 (ys ++ [32]) _ hku (Nat.le_refl 8) ?_ ?_ ?_).mono ?_; exact Nat.le_trans hB2 (Nat.le_trans (by simp; omega) hgr3.size); exact (hg3.out).own; (simp; omega); rintro e w4 ⟨v4, rfl, hg4⟩; have hb4 := hb3.chg hg4.chg hne3; have cb4 : w4.cell? ⟨wr.heap.size, 3, none⟩ = some (.float .f64 xf) := (by rw [hb4.cell]; rfl))
              | (refine step_append_any _ (by rfl) _ _ _ (by rfl) B 5 i0 _ 1 1 Tryz.underlying51 hi hz0 hz1 hz2 rfl (by omega) u0 ys.length (bys ys) (by rfl) ((hown1.alloc _).alloc _).drew (wr.heap.size + 1 + 1) (some ⟨wr.heap.size + 1, 0, none⟩) 1 1 [.int .u8 32] (by rfl) (Reads.one1 wr _ _ _ _ rfl).drew (by simp [Value.oneCell']) (by unfold maxLen; omega) (by omega) (by simp; omega) ?_; intro v3 w3 hown3 hgr3 hat; have hg3 := Lib.hid (Grew.step (zs := [32]) (Grew.refl hown1) (((Chg.refl _ _).alloc _).alloc _).drew hown3 rfl hgr3 (fun k hk => (own_at hat k hk).imp id (fun h => by simp at h; omega))); have hb3 := (((Nb.out).alloc _).drew).grown hgr3 hne; have hne3 : ¬ (v3.ownBlock = some wr.heap.size) := (fun e => by rcases own_at hat _ e with h | h; exact hne h.symm; (simp at h; omega)); have cb3 : w3.cell? ⟨wr.heap.size, 3, none⟩ = some (.float .f64 xf) := (by rw [hb3.cell]; rfl)))
          all_goals
            have Hf := Lib.hid ((hg3.out).trans hg4)
            clear hg4 hb4 cb4 hgr3 hat hb3 hne3 cb3 hown3
            go_wp2_with fail
            go_round
            case rel =>
              have h1 := Hcat.out
              have h2 := Hf.out
              rw [Tp.one4, Hz.out] at h1
              rw [List.append_assoc, List.singleton_append] at h2
              exact ⟨j + 1, _, by omega, by go_num, h1, (Hg.out).trans h2⟩
            case measure => simp [intOf]; omega
        · rw [Tp.one5] at hroom2
          have hesc := Tp.esc_length xt
          have ht := Hin.out.t
          have hys : ys.length + (Tp.esc xt).length + 3 ≤ 1000000 := by simp at hroom2; omega
          have hmx : ∀ w', Chg (fun _ => False) wr w' → True := fun _ _ => trivial
          have HM := Lib.hid ((Hk'.out).1 ⟨1, 0, none⟩ hB0 |>.trans hm0)
          have Nb := Lib.hid (Blk.new wr 40 #[.int .u8 5, .bool xb, .int .i64 xn, .float .f64 xf, S xt, .slice A xl.length xcap])
          have hne : some wr.heap.size ≠ u0.ownBlock := fun h => absurd (Hlt1.out _ h.symm) (Nat.lt_irrefl _)
          clear hroom2 hesc hmx
          go_wp2_with (at_builtin; refine wpList_append_any _ rfl (.tmp 73) (.tmp 74) _ rfl B 5 i0 _ 1 1 Tryz.underlying51 hi hz0 hz1 hz2 rfl (by omega) _ ys.length (bys ys) rfl ((hown1.alloc _).alloc _) (wr.heap.size + 1 + 1) (some ⟨wr.heap.size + 1, 0, none⟩) 1 1 [_] rfl (Reads.one1 _ _ _ _ _ rfl) (by simp [Value.oneCell']) (by unfold maxLen; omega) (by omega) (by simp; omega) ?_; intro v3 w3 hown3 hgr3 hat; have hb3 := ((Nb.out).alloc _).grown hgr3 hne; have cb3 : w3.cell? ⟨wr.heap.size, 4, none⟩ = some (S xt) := (by rw [hb3.cell]; rfl))
          have hg3 := Grew.step (zs := [36]) (Grew.refl hown1) (((Chg.refl _ _).alloc _).alloc _) hown3 rfl hgr3 (fun k hk => (own_at hat k hk).imp id (fun h => by simp at h; omega))
          have HM3 := Lib.hid ((hg3.keep (Hk'.out) (Nat.le_refl _) hown1).1 ⟨1, 0, none⟩ hB0 |>.trans hm0)
          have hs3 := hg3.chg.size
          refine (rep_calls xt m _ ht HM3.out).mono ?_
          rintro e w5 ⟨rfl, hc5⟩
          have hg5 := hg3.quiet hc5
          have hown5 := hg5.own
          have hs5 := hc5.size
          have hesz : (⟨(Tp.esc xt).toArray⟩ : ByteArray).size = (Tp.esc xt).length := by simp [ByteArray.size]
          have hl5 : (ys ++ [36]).length = ys.length + 1 := by simp
          have Hg5 := Lib.hid hg5
          clear hg5 hg3 hc5 hb3 cb3 hown3 hgr3 hat
          go_wp2_with (first
            | (at_builtin; refine wpList_append_string_at _ rfl (.tmp 76) (.tmp 79) _ _ rfl B 5 i0 Tryz.underlying51 Tryz.underlying9 hi hz0 hz1 hz2 v3 (ys ++ [36]).length (bys (ys ++ [36])) rfl hown5 ⟨(Tp.esc xt).toArray⟩ rfl (by rw [hesz, hl5]; unfold maxLen; omega) (by rw [hesz, hl5]; omega) (by omega) ?_; intro v6 w6 hown6 hgr6 hat6; have hg6 := (Grew.step (zs := Tp.esc xt) (Grew.refl hown5) (Chg.refl _ _) hown6 (strCells_S _) hgr6 (fun k hk => own_at hat6 k hk)); have hown7 := hg6.own; have hs6 := hg6.chg.size)
            | (at_builtin; refine wpList_append_any _ rfl (.tmp 81) (.tmp 82) _ rfl B 5 i0 _ 1 1 Tryz.underlying51 hi hz0 hz1 hz2 rfl (by omega) _ (ys ++ [36] ++ Tp.esc xt).length (bys (ys ++ [36] ++ Tp.esc xt)) rfl (hown7.alloc _) (w6.heap.size + 1) (some ⟨w6.heap.size, 0, none⟩) 2 2 [_, _] rfl (Reads.two _ _ _ _ _ rfl) (by simp [Value.oneCell']) (by simp; unfold maxLen; omega) (by simp; omega) (by simp; omega) ?_; intro v8 w8 hown8 hgr8 hat8))
          have hg8 := Grew.step (zs := [0, 1]) (Grew.refl hown7) ((Chg.refl _ _).alloc _) hown8 rfl hgr8 (fun k hk => (own_at hat8 k hk).imp id (fun h => by simp at h; omega))
          have Hf := Lib.hid (((Hg.out).trans (Hg5.out)).trans (hg6.trans hg8))
          clear hg8 hown8 hgr8 hat8 hg6 hown7 hown6 hgr6 hat6
          go_round
          case rel =>
            have h1 := Hcat.out
            have h2 := Hf.out
            rw [Tp.one5] at h1
            have e : ys ++ [36] ++ Tp.esc xt ++ [0, 1] = ys ++ 36 :: (Tp.esc xt ++ [0, 1]) := by simp
            rw [e] at h2
            exact ⟨j + 1, _, by omega, by go_num, h1, h2⟩
          case measure => simp [intOf]; omega
        · rw [Tp.one6] at hroom2
          have hys : ys.length + (Tp.byt xl).length + 2 ≤ 1000000 := by simp at hroom2; omega
          have Nb := Lib.hid (Blk.new wr 40 #[.int .u8 6, .bool xb, .int .i64 xn, .float .f64 xf, S xt, .slice A xl.length xcap])
          have hne : some wr.heap.size ≠ u0.ownBlock := fun h => absurd (Hlt1.out _ h.symm) (Nat.lt_irrefl _)
          clear hroom2
          go_wp2_with fail
          go_region_held3 (fun w' => w'.cell? ⟨wr.heap.size, 5, none⟩ = some (.slice A xl.length xcap))
            (first | assumption | go_keep)
            (first
              | (go_at_call 50; refine (HI.out v3 (ys ++ [40]) _ ((hg3.out).keep (Hk'.out) (Nat.le_refl _) hown1) (hg3.out).own (by simp; omega)).mono ?_; rintro e w4 ⟨v4, rfl, hg4⟩; have hz4 := hz3.chg hg4.chg hnz3; have hg5 := Lib.hid ((hg3.out).trans hg4); have hb4 := hb3.chg hg4.chg hne3; have cb4 : w4.cell? ⟨wr.heap.size, 5, none⟩ = some (.slice A xl.length xcap) := (by rw [hb4.cell]; rfl); have hown4 := hg4.own; have hs4 := hg4.chg.size; have hnb4 : ¬ (v4.ownBlock = some wr.heap.size) := (fun e => by rcases hg4.at_ _ e with h | h; exact hne3 h; (try simp at h); omega))
              | (go_at_call 50; refine (HI.out v3 (ys ++ [40]) _ ((hg3.out).keep (Hk'.out) (Nat.le_refl _) hown1) (hg3.out).own (by simp; omega)).mono ?_; rintro e w4 ⟨v4, rfl, hg4⟩; have hg5 := Lib.hid ((hg3.out).trans hg4); have hb4 := hb3.chg hg4.chg hne3; have cb4 : w4.cell? ⟨wr.heap.size, 5, none⟩ = some (.slice A xl.length xcap) := (by rw [hb4.cell]; rfl); have hown4 := hg4.own; have hs4 := hg4.chg.size; have hnb4 : ¬ (v4.ownBlock = some wr.heap.size) := (fun e => by rcases hg4.at_ _ e with h | h; exact hne3 h; (try simp at h); omega))
              | (go_at_call 50; refine (HI.out v3 (ys ++ [40]) _ (((hg3.out).keep (Hk'.out) (Nat.le_refl _) hown1).chg ((Chg.refl (fun _ => False) _).alloc _) (fun k _ e => e)) (((hg3.out).own).alloc _) (by simp; omega)).mono ?_; rintro e w4 ⟨v4, rfl, hg4⟩; have hz4 := (Blk.new w3 5 #[.int .u8 0]).chg hg4.chg (fun e => by have := (((hg3.out).own).lt _ e).2; omega); have hg5 := Lib.hid (((hg3.out).quiet ((Chg.refl _ _).alloc _)).trans hg4); have hb4 := (hb3.alloc _).chg hg4.chg hne3; have cb4 : w4.cell? ⟨wr.heap.size, 5, none⟩ = some (.slice A xl.length xcap) := (by rw [hb4.cell]; rfl); have hown4 := hg4.own; have hs4 := hg4.chg.size; simp at hs4; have hnb4 : ¬ (v4.ownBlock = some wr.heap.size) := (fun e => by rcases hg4.at_ _ e with h | h; exact hne3 h; (try simp at h); omega))
              | (refine step_append_any _ (by rfl) _ _ _ (by rfl) B 5 i0 _ 1 1 Tryz.underlying51 hi hz0 hz1 hz2 rfl (by omega) v4 (ys ++ [40] ++ Tp.byt xl).length (bys (ys ++ [40] ++ Tp.byt xl)) (by rfl) (hown4.alloc _) _ (some ⟨w4.heap.size, 0, none⟩) 1 1 [.int .u8 0] (by rfl) (Reads.one w4 _ _ _ rfl) (by simp [Value.oneCell']) (by simp; unfold maxLen; omega) (by simp; omega) (by (try simp); omega) ?_; intro v8 w8 hown8 hgr8 hat8; have hg8 := Lib.hid (((hg5.out).trans (Grew.step (zs := [0]) (Grew.refl hown4) ((Chg.refl _ _).alloc _) hown8 rfl hgr8 (fun k hk => (own_at hat8 k hk).imp id (fun h => by (try simp at h); omega))))); have hb8 := (hb4.alloc _).grown hgr8 (fun h => hnb4 h.symm); have cb8 : w8.cell? ⟨wr.heap.size, 5, none⟩ = some (.slice A xl.length xcap) := (by rw [hb8.cell]; rfl))
              | (refine step_append_any _ (by rfl) _ _ _ (by rfl) B 5 i0 _ 1 1 Tryz.underlying51 hi hz0 hz1 hz2 rfl (by omega) u0 ys.length (bys ys) (by rfl) ((hown1.alloc _).alloc _).drew (wr.heap.size + 1 + 1) (some ⟨wr.heap.size + 1, 0, none⟩) 1 1 [.int .u8 40] (by rfl) (Reads.one1 wr _ _ _ _ rfl).drew (by simp [Value.oneCell']) (by unfold maxLen; omega) (by omega) (by simp; omega) ?_; intro v3 w3 hown3 hgr3 hat; have hg3 := Lib.hid (Grew.step (zs := [40]) (Grew.refl hown1) (((Chg.refl _ _).alloc _).alloc _).drew hown3 rfl hgr3 (fun k hk => (own_at hat k hk).imp id (fun h => by (try simp at h); omega))); have hlt3 : wr.heap.size + 1 < w3.heap.size := (by have := hgr3.size; simp at this; omega); have hb3 := (((Nb.out).alloc _).drew).grown hgr3 hne; have hne3 : ¬ (v3.ownBlock = some wr.heap.size) := (fun e => by rcases own_at hat _ e with h | h; exact hne h.symm; (simp at h; omega)); have cb3 : w3.cell? ⟨wr.heap.size, 5, none⟩ = some (.slice A xl.length xcap) := (by rw [hb3.cell]; rfl))
              | (refine step_append_any _ (by rfl) _ _ _ (by rfl) B 5 i0 _ 1 1 Tryz.underlying51 hi hz0 hz1 hz2 rfl (by omega) u0 ys.length (bys ys) (by rfl) (((hown1.alloc _).alloc _).alloc _).drew (wr.heap.size + 1 + 1) (some ⟨wr.heap.size + 1, 0, none⟩) 1 1 [.int .u8 40] (by rfl) ((Reads.one1 wr _ _ _ _ rfl).alloc (by simp) _).drew (by simp [Value.oneCell']) (by unfold maxLen; omega) (by omega) (by simp; omega) ?_; intro v3 w3 hown3 hgr3 hat; have hg3 := Lib.hid (Grew.step (zs := [40]) (Grew.refl hown1) ((((Chg.refl _ _).alloc _).alloc _).alloc _).drew hown3 rfl hgr3 (fun k hk => (own_at hat k hk).imp id (fun h => by (try simp at h); omega))); have hlt3 : wr.heap.size + 1 < w3.heap.size := (by have := hgr3.size; simp at this; omega); have hb3 := ((((Nb.out).alloc _).alloc _).drew).grown hgr3 hne; have hne3 : ¬ (v3.ownBlock = some wr.heap.size) := (fun e => by rcases own_at hat _ e with h | h; exact hne h.symm; (simp at h; omega)); have cb3 : w3.cell? ⟨wr.heap.size, 5, none⟩ = some (.slice A xl.length xcap) := (by rw [hb3.cell]; rfl); have hz3 := (Blk.new2 wr _ _ 5 #[.int .u8 0]).drew.grown hgr3 (fun h => absurd (Hlt1.out _ h.symm) (by omega)); have hnz3 : ¬ (v3.ownBlock = some (wr.heap.size + 1 + 1)) := (fun e => by rcases own_at hat _ e with h | h; exact absurd (Hlt1.out _ h) (by omega); (simp at h; omega)))
              | (refine step_append_any _ (by rfl) _ _ _ (by rfl) B 5 i0 _ 1 1 Tryz.underlying51 hi hz0 hz1 hz2 rfl (by omega) u0 ys.length (bys ys) (by rfl) (((hown1.alloc _).alloc _).alloc _).drew (wr.heap.size + 1 + 1 + 1) (some ⟨wr.heap.size + 1 + 1, 0, none⟩) 1 1 [.int .u8 40] (by rfl) (Reads.one2 wr _ _ _ _ _ rfl).drew (by simp [Value.oneCell']) (by unfold maxLen; omega) (by omega) (by simp; omega) ?_; intro v3 w3 hown3 hgr3 hat; have hg3 := Lib.hid (Grew.step (zs := [40]) (Grew.refl hown1) ((((Chg.refl _ _).alloc _).alloc _).alloc _).drew hown3 rfl hgr3 (fun k hk => (own_at hat k hk).imp id (fun h => by (try simp at h); omega))); have hlt3 : wr.heap.size + 1 < w3.heap.size := (by have := hgr3.size; simp at this; omega); have hb3 := ((((Nb.out).alloc _).alloc _).drew).grown hgr3 hne; have hne3 : ¬ (v3.ownBlock = some wr.heap.size) := (fun e => by rcases own_at hat _ e with h | h; exact hne h.symm; (simp at h; omega)); have cb3 : w3.cell? ⟨wr.heap.size, 5, none⟩ = some (.slice A xl.length xcap) := (by rw [hb3.cell]; rfl); have hz3 := ((Blk.new' wr _ 5 #[.int .u8 0]).alloc _).drew.grown hgr3 (fun h => absurd (Hlt1.out _ h.symm) (by omega)); have hnz3 : ¬ (v3.ownBlock = some (wr.heap.size + 1)) := (fun e => by rcases own_at hat _ e with h | h; exact absurd (Hlt1.out _ h) (by omega); (simp at h; omega)))
              | (refine step_append_any _ (by rfl) _ _ _ (by rfl) B 5 i0 _ 1 1 Tryz.underlying51 hi hz0 hz1 hz2 rfl (by omega) v4 (ys ++ [40] ++ Tp.byt xl).length (bys (ys ++ [40] ++ Tp.byt xl)) (by rfl) hown4 _ (some ⟨_, 0, none⟩) 1 1 [.int .u8 0] (by rfl) (Reads.of_blk hz4) (by simp [Value.oneCell']) (by simp; unfold maxLen; omega) (by simp; omega) (by (try simp); omega) ?_; intro v8 w8 hown8 hgr8 hat8; have hg8 := Lib.hid (((hg5.out).trans (Grew.step (zs := [0]) (Grew.refl hown4) (Chg.refl _ _) hown8 rfl hgr8 (fun k hk => (own_at hat8 k hk).imp id (fun h => by (try simp at h); omega))))); have hb8 := hb4.grown hgr8 (fun h => hnb4 h.symm); have cb8 : w8.cell? ⟨wr.heap.size, 5, none⟩ = some (.slice A xl.length xcap) := (by rw [hb8.cell]; rfl)))
          all_goals
            have Hf := Lib.hid ((Hg.out).trans (hg8.out))
            clear hg8 hb8 cb8 hown8 hgr8 hat8 hg4 hg5 hb4 cb4 hgr3 hat hb3 hne3 cb3 hown3
            go_wp2_with fail
            go_round
            case rel =>
              have h1 := Hcat.out
              have h2 := Hf.out
              rw [Tp.one6] at h1
              have e : ys ++ [40] ++ Tp.byt xl ++ [0] = ys ++ 40 :: (Tp.byt xl ++ [0]) := by simp
              rw [e] at h2
              exact ⟨j + 1, _, by omega, by go_num, h1, h2⟩
            case measure => simp [intOf]; omega
      · have hjl : j = l.length := by omega
        have Hg := Lib.hid hg
        have Hcat := Lib.hid hcat
        have hnl : ¬ ((j : Int) < (l.length : Int)) := by omega
        have hnl2 : decide ((j : Int) < (l.length : Int)) = false := by rw [decide_eq_false_iff_not]; omega
        have Hjl := Lib.hid hjl
        clear hk hin hcells hr ih hg hl hcat
        go_wp2_with fail
        go_ret
        have hcat := Hcat.out
        rw [Hjl.out, List.drop_length, Tp.byt, List.append_nil] at hcat
        rw [← hcat]
        exact ⟨_, rfl, Hg.out⟩
end Go.Proofs.YtdicelibjpmglaaGreatDoor
