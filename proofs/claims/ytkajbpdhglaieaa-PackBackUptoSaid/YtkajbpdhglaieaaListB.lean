/-
  pack.List at []uint8: the list of rows of bytes that the function that is handed in reads. Printed by gen_listb.py.
-/
import Derived.Test.YtkajbpdhglaieaaList
import Derived.Test.YtkajbpdhglaieaaJoin
import Derived.Test.YtkajbpdhglaieaaTake
namespace Go.Proofs.Ytkajbpdhglaieaa
open Go.RowKit
set_option linter.unusedVariables false

theorem info_rows : (Try.prog.info? 76).map (fun i => (i.zero, i.size, i.bytes)) = some (some (.slice none 0 0), 1, 24) := by kernel_rfl

theorem own_own_ne {w : World} {base base' : Nat} {e e' : TypeId} {size size' n n' : Nat} {v v' : Value} {xs xs' : List Value} (h : w.ownsRow base e size v n xs) (h' : w.ownsRow base' e' size' v' n' xs') (hne : e ≠ e') {k : Nat} (hk : v.ownBlock = some k) : v'.ownBlock ≠ some k := by
  rcases h.2 with ⟨rfl, _⟩ | ⟨g, cap, cur, rfl, _, hh, _⟩
  · simp [Value.ownBlock] at hk
  · have : g = k := by simpa [Value.ownBlock] using hk
    subst this
    exact own_blk_ne h' (cs := cur) hh (Ne.symm hne)
theorem own_base {w : World} {base base' : Nat} {e : TypeId} {size n : Nat} {v : Value} {xs : List Value} (h : w.ownsRow base e size v n xs) (hb : base' ≤ base) : w.ownsRow base' e size v n xs := by
  refine ⟨h.1, ?_⟩
  rcases h.2 with h2 | ⟨g, cap, cur, e, hg, r⟩
  · exact .inl h2
  · exact .inr ⟨g, cap, cur, e, by omega, r⟩

/-- the slices vs own the rows of bytes ls, each in a block from base on -/
def RowsAt (w : World) (base : Nat) (vs : List Value) (ls : List (List UInt8)) : Prop :=
  vs.length = ls.length ∧ ∀ (i : Nat) (v : Value) (l : List UInt8), vs[i]? = some v → ls[i]? = some l → w.ownsRow base 5 1 v l.length (bys l)
theorem RowsAt.nil (w : World) (base : Nat) : RowsAt w base [] [] := ⟨rfl, fun i v l h => by simp at h⟩
theorem RowsAt.chg {S : Nat → Prop} {w w' : World} {base : Nat} {vs : List Value} {ls : List (List UInt8)} (h : RowsAt w base vs ls) (hc : Chg S w w') (hn : ∀ k, base ≤ k → ¬ S k) : RowsAt w' base vs ls :=
  ⟨h.1, fun i v l h1 h2 => by have h3 := h.2 i v l h1 h2; exact own_chg h3 hc (fun k hk => hn k (h3.lt k hk).1)⟩
theorem RowsAt.alloc {w : World} {base : Nat} {vs : List Value} {ls : List (List UInt8)} (h : RowsAt w base vs ls) (o : Obj) : RowsAt (w.alloc o) base vs ls := h.chg ((Chg.refl (fun _ => False) w).alloc o) (fun _ _ h => h)
theorem RowsAt.grown {w w' : World} {base base' size n : Nat} {e : TypeId} {v : Value} {xs : List Value} {vs : List Value} {ls : List (List UInt8)} (h : RowsAt w base vs ls) (hg : w.grownBy w' v.ownBlock) (hv : w.ownsRow base' e size v n xs) (he : e ≠ 5) : RowsAt w' base vs ls :=
  ⟨h.1, fun i u l h1 h2 => by
    have h3 := h.2 i u l h1 h2
    exact own_chg h3 (Chg.of_grown hg) (fun k hk e => own_own_ne h3 hv (Ne.symm he) hk e)⟩
theorem RowsAt.snoc {w : World} {base : Nat} {vs : List Value} {ls : List (List UInt8)} {v : Value} {l : List UInt8} (h : RowsAt w base vs ls) (hv : w.ownsRow base 5 1 v l.length (bys l)) : RowsAt w base (vs ++ [v]) (ls ++ [l]) := by
  refine ⟨by simp [h.1], fun i u m h1 h2 => ?_⟩
  rcases Nat.lt_trichotomy i vs.length with hi | hi | hi
  · rw [List.getElem?_append_left hi] at h1
    rw [List.getElem?_append_left (by rw [← h.1]; exact hi)] at h2
    exact h.2 i u m h1 h2
  · subst hi
    rw [List.getElem?_append_right (Nat.le_refl _)] at h1
    rw [h.1, List.getElem?_append_right (Nat.le_refl _)] at h2
    simp at h1 h2
    subst h1 h2
    exact hv
  · rw [List.getElem?_eq_none (by simp; omega)] at h1
    cases h1

/-- The function value (F, caps) reads one row of bytes. -/
def ReadsB (step : Pk.Rd → List UInt8 × Pk.Rd) (N g F : Nat) (caps : Array Value) : Prop :=
  ∀ (r : Pk.Rd) (w : World), IsR w g r → r.f = 0 → r.s.length ≤ N →
    Calls Try.prog F (#[.pointer (some ⟨g, 0, none⟩)] ++ caps) w fun e w' => ∃ v, e = .returned v ∧ w'.ownsRow w.heap.size 5 1 v (step r).1.length (bys (step r).1) ∧ IsR w' g (step r).2 ∧ (step r).2.s = r.s ∧ Chg (fun b => b = g) w w'

set_option maxHeartbeats 4000000 in
set_option maxRecDepth 100000 in
theorem list_rows (step : Pk.Rd → (List UInt8) × Pk.Rd) (g F : Nat) (caps : Array Value) (most : Int) (r : Pk.Rd) (w : World)
    (h : IsR w g r) (hi : I64 most) (hlen : r.s.length ≤ 4398046511104)
    (hF : ∀ (args : Array Value) (w : World), (callFunc F args).run Try.prog w = .ok (.enter F args) w)
    (hone : ReadsB step 4398046511104 g F caps) :
    Calls Try.prog 86 #[.pointer (some ⟨g, 0, none⟩), .int .i64 most, .func (.func F) #[] caps] w fun e w' => ∃ v vs, e = .returned v ∧
      w'.ownsRow w.heap.size 76 1 v (r.list most step).1.length vs ∧ RowsAt w' w.heap.size vs (r.list most step).1 ∧ IsR w' g (r.list most step).2 ∧ (r.list most step).2.s = r.s ∧ Chg (fun b => b = g) w w' := by
  obtain ⟨i0, hi0, hz0, hz1, hz2⟩ := info_parts info_rows
  have c2 := h.c2
  have le := h.le
  have hfn : ∀ w : World, (binOp .neq 123 (.func (.func F) #[] caps) .nilFunc).run Try.prog w = .ok (.bool true) w := fun _ => by kernel_rfl
  have Hone := Lib.hid hone
  clear hone
  by_cases hf : r.f = 0
  · have Hf := Lib.hid hf
    clear hf
    go_enter Try.func86, Try.ntmps86
    rcases (show most ≤ 0 ∨ 0 < most by omega) with hm | hm
    all_goals
      go_wp2_with (go_at_call 70; refine (dead_no g r _ h Hf.out).mono ?_; rintro e w' ⟨rfl, rfl⟩)
      refine (rfree_callsI g _ most.toNat r _ ?hmi h).mono ?_
      case hmi => first | omega | (unfold I64 at hi; rw [IntKind.wrap_u64]; omega)
      rintro e w1 ⟨rfl, h1, hc1⟩
      have hs := rfree_s r most.toNat
      by_cases hf2 : (r.free most.toNat).2.f = 0
      · by_cases hl : (r.free most.toNat).2.left < (r.free most.toNat).1
        · have Hr := Lib.hid (heads_most Hf.out hf2 hl)
          generalize r.free most.toNat = p at *
          obtain ⟨n, q⟩ := p
          simp only at *
          have Hf2 := Lib.hid hf2
          have Hs := Lib.hid hs
          have hl' : q.left < n := hl
          have hql : q.left ≤ 140737488355328 := by have := h1.len; unfold Pk.Rd.left; omega
          clear hf2 hs
          go_wp2_with (first | (go_at_call 70; refine (dead_no g q _ h1 Hf2.out).mono ?_; rintro e w' ⟨rfl, rfl⟩) | (go_at_call 25; refine (left_calls g q _ h1).mono ?_; rintro e w' ⟨rfl, nq, rfl⟩) | (go_at_call 71; refine (fail_calls g q 12 12 r.pos _ rfl (h1.drewN nq) (by rw [Hs.out]; exact le)).mono ?_; rintro e w' ⟨rfl, hred⟩))
          go_ret
          unfold Pk.Rd.list
          rw [Hr.out]
          exact ⟨_, [], rfl, World.ownsRow_nil _ _ _ _, RowsAt.nil _ _, hred.1, Hs.out, (hc1.drewN _).trans hred.2⟩
        · have Hr := Lib.hid (heads_of Hf.out hf2 (by omega))
          generalize r.free most.toNat = p at *
          obtain ⟨n, q⟩ := p
          simp only at *
          have Hf2 := Lib.hid hf2
          have Hs := Lib.hid hs
          have hl' : n ≤ q.left := by omega
          have hql : q.left ≤ 4398046511104 := by unfold Pk.Rd.left; rw [hs]; omega
          have hdec : decide (q.left < n) = false := by simp; omega
          clear hf2 hs hl
          go_wp2_with (first | (go_at_call 70; refine (dead_no g q _ h1 Hf2.out).mono ?_; rintro e w' ⟨rfl, rfl⟩) | (go_at_call 25; refine (left_calls g q _ h1).mono ?_; rintro e w' ⟨rfl, nq, rfl⟩))
          go_loopw [9, 10, 33] (fun lv _ iv wr => ∃ (k : Nat) (acc : List (List UInt8)) (vs : List Value) (rd : Pk.Rd), k ≤ n ∧ acc.length = k ∧ iv = .int .u64 k ∧ wr.ownsRow w.heap.size 76 1 lv k vs ∧ RowsAt wr w.heap.size vs acc ∧ IsR wr g rd ∧ rd.f = 0 ∧ rd.s = r.s ∧ Chg (fun b => b = g) w wr ∧
              Pk.Rd.loop step (n - k) acc rd = Pk.Rd.loop step n [] q) (fun _ _ iv _ => n - (intOf iv).toNat)
          case atStart => exact ⟨0, [], [], q, by omega, rfl, rfl, World.ownsRow_nil _ _ _ _, RowsAt.nil _ _, h1.drewN _, Hf2.out, Hs.out, hc1.drewN _, rfl⟩
          case round =>
            obtain ⟨k, acc, vs, rd, hk, hak, rfl, hown, hrows, hrd, hrf, hrs, hchg, hloop⟩ := hrel
            have Hak := Lib.hid hak
            have Hrf := Lib.hid hrf
            have Hrs := Lib.hid hrs
            clear hak hrf hrs
            by_cases hp : k < n
            · obtain ⟨m, hm⟩ : ∃ m, n - k = m + 1 := ⟨n - k - 1, by omega⟩
              rw [hm] at hloop
              have Hm := Lib.hid hm
              clear hm
              have Hstep := Lib.hid (Hone.out rd)
              by_cases hbad : (step rd).2.f = 0
              · rw [Pk.Rd.loop_good hbad] at hloop
                have Hloop := Lib.hid hloop
                have Hbad := Lib.hid hbad
                clear hloop hbad
                go_wp2_with fail
                refine (Hstep.out _ hrd Hrf.out (by rw [Hrs.out]; exact hlen)).mono ?_
                rintro e w2 ⟨sv, rfl, hsv, h2, hs2, hc2⟩
                have Hs2 := Lib.hid (hs2.trans Hrs.out)
                clear hs2
                have hn2 : ∀ b, w.heap.size ≤ b → ¬ b = g := fun b hb e => by have := h.blk.lt; omega
                have hown2 := own_chg hown hc2 (fun b hb => hn2 b (hown.lt b hb).1)
                have hrows2 := hrows.chg hc2 hn2
                have hsv2 := own_base hsv hchg.size
                obtain ⟨x, hx⟩ : ∃ x, (step rd).1 = x := ⟨_, rfl⟩
                obtain ⟨q2, hq2⟩ : ∃ q2, (step rd).2 = q2 := ⟨_, rfl⟩
                rw [hx] at hsv hsv2
                rw [hq2] at h2
                have Hx := Lib.hid hx
                have Hq2 := Lib.hid hq2
                have Hf3 := Lib.hid (show q2.f = 0 by rw [← hq2]; exact Hbad.out)
                rw [hq2] at Hs2
                have hrows3 := hrows2.snoc hsv2
                obtain ⟨ao, cp, rfl⟩ := own_form hsv
                have hsz1 := hchg.size
                have hsz2 := hc2.size
                clear hx hq2 hsv
                go_wp2_with (first | (go_at_call 70; refine (dead_no g q2 _ h2 Hf3.out).mono ?_; rintro e w' ⟨rfl, rfl⟩) | (at_builtin; refine wpList_append_any _ rfl (.tmp 42) (.tmp 44) _ rfl w.heap.size 76 i0 _ 1 24 Try.underlying121 hi0 hz0 hz1 hz2 rfl (by omega) _ k vs rfl (hown2.alloc _) (w2.heap.size + 1) (some ⟨w2.heap.size, 0, none⟩) 1 1 [Value.slice ao x.length cp] rfl (Reads.one _ _ _ _ rfl) (by simp [Value.oneCell']) (by unfold maxLen; omega) (by omega) (by simp; omega) ?_; intro v3 w3 hown3 hgr hat))
                go_roundw
                case rel =>
                  have hne : ∀ b, b < w.heap.size → w3.heap[b]? = w2.heap[b]? := fun b hb => by
                    have h3 := hgr.block b (by simp; omega) (fun e => by have := (hown.lt b e.symm).1; omega)
                    rw [h3]
                    exact Below.heap_alloc _ _ _ (by omega)
                  refine ⟨k + 1, acc ++ [x], vs ++ [Value.slice ao x.length cp], q2, by omega, by simp [Hak.out], by go_num, ?_, ?_, ?_, Hf3.out, Hs2.out, ?_, ?_⟩
                  · simpa using hown3
                  · exact (hrows3.alloc _).grown hgr (hown2.alloc _) (by decide)
                  · exact ⟨(hne g h.blk.lt).trans h2.blk, h2.le, h2.len⟩
                  · exact ⟨hgr.os.trans (hc2.os.trans hchg.os), hgr.tape.trans (hc2.tape.trans hchg.tape), hgr.output.trans (hc2.output.trans hchg.output), by have z := hgr.size; simp at z; omega, fun b hb hn => (hne b hb).trans ((hc2.block b (by omega) hn).trans (hchg.block b hb hn))⟩
                  · have h4 := Hloop.out
                    rw [Hx.out, Hq2.out] at h4
                    rw [← h4]
                    congr 1
                    have := Hm.out
                    omega
                case measure => simp [intOf]; omega
              · rw [Pk.Rd.loop_bad hbad] at hloop
                have Hloop := Lib.hid hloop
                have Hbad := Lib.hid hbad
                clear hloop hbad
                go_wp2_with fail
                refine (Hstep.out _ hrd Hrf.out (by rw [Hrs.out]; exact hlen)).mono ?_
                rintro e w2 ⟨sv, rfl, hsv, h2, hs2, hc2⟩
                have Hs2 := Lib.hid (hs2.trans Hrs.out)
                clear hs2
                obtain ⟨ao, cp, rfl⟩ := own_form hsv
                clear hsv
                go_wp2_with (go_at_call 70; refine (dead_yes g _ _ h2 Hbad.out).mono ?_; rintro e w' ⟨rfl, rfl⟩)
                go_ret
                unfold Pk.Rd.list
                rw [Hr.out]
                simp only
                rw [← Hloop.out]
                exact ⟨_, [], rfl, World.ownsRow_nil _ _ _ _, RowsAt.nil _ _, h2, Hs2.out, hchg.trans hc2⟩
            · obtain rfl : k = n := by omega
              rw [Nat.sub_self] at hloop
              have Hloop := Lib.hid hloop
              clear hloop
              go_wp2_with fail
              go_ret
              unfold Pk.Rd.list
              rw [Hr.out]
              simp only
              rw [← Hloop.out]
              exact ⟨_, vs, rfl, by simp only [Pk.Rd.loop]; rw [Hak.out]; exact hown, hrows, hrd, Hrs.out, hchg⟩
      · have Hr := Lib.hid (heads_bad Hf.out hf2)
        generalize r.free most.toNat = p at *
        obtain ⟨n, q⟩ := p
        simp only at *
        have Hf2 := Lib.hid hf2
        have Hs := Lib.hid hs
        clear hf2 hs
        go_wp2_with (go_at_call 70; refine (dead_yes g q _ h1 Hf2.out).mono ?_; rintro e w' ⟨rfl, rfl⟩)
        go_ret
        unfold Pk.Rd.list
        rw [Hr.out]
        exact ⟨_, [], rfl, World.ownsRow_nil _ _ _ _, RowsAt.nil _ _, h1, Hs.out, hc1⟩
  · have Hr := Lib.hid (heads_dead (most := most) hf)
    go_enter Try.func86, Try.ntmps86
    go_wp2_with (go_at_call 70; refine (dead_yes g r _ h hf).mono ?_; rintro e w' ⟨rfl, rfl⟩)
    go_ret
    unfold Pk.Rd.list
    rw [Hr.out]
    exact ⟨_, [], rfl, World.ownsRow_nil _ _ _ _, RowsAt.nil _ _, h, rfl, Chg.refl _ _⟩

/-- one byte, as a fixed number -/
def byte1 (r : Pk.Rd) : UInt8 × Pk.Rd := (UInt8.ofNat (r.take 1).1, (r.take 1).2)
theorem rtake_s (r : Pk.Rd) (n : Nat) : (r.take n).2.s = r.s := by
  unfold Pk.Rd.take
  split
  · rfl
  · split <;> rfl
theorem tk_u8_byte (r : Pk.Rd) : tk .u8 (r.take 1).1 = ((UInt8.ofNat (r.take 1).1).toNat : Int) := by unfold tk; rw [IntKind.wrap_u8']; simp
set_option maxHeartbeats 1000000 in
set_option maxRecDepth 100000 in
theorem byte_reads (g : Nat) : Reads1 (fun x : UInt8 => Value.int .u8 (x.toNat : Int)) byte1 (fun _ => False) (fun _ _ => True) g 103 #[] := by
  intro k r w h hf _
  show Calls _ _ #[.pointer (some ⟨g, 0, none⟩)] _ _
  go_enter Try.func103, Try.ntmps103
  go_wp2_with fail
  refine (take_uint8 g r w h).mono ?_
  rintro e w1 ⟨rfl, h1, hc1⟩
  rw [tk_u8_byte]
  go_wp2_with fail
  go_ret
  exact ⟨rfl, h1, rtake_s r 1, hc1.mono fun _ _ h => .inl h, trivial⟩
theorem rloop_s {α : Type} (step : Pk.Rd → α × Pk.Rd) (hs : ∀ r, (step r).2.s = r.s) : ∀ (n : Nat) (acc : List α) (r : Pk.Rd), (Pk.Rd.loop step n acc r).2.s = r.s := by
  intro n
  induction n with
  | zero => intro acc r; rfl
  | succ n ih =>
    intro acc r
    simp only [Pk.Rd.loop]
    split
    · exact hs r
    · rw [ih, hs]
theorem rheads_s (r : Pk.Rd) (most : Int) : (r.heads most).2.s = r.s := by
  have := rfree_s r most.toNat
  unfold Pk.Rd.heads
  split
  · rfl
  · split
    · exact this
    · split
      · exact this
      · exact this
theorem rlist_s {α : Type} (step : Pk.Rd → α × Pk.Rd) (hs : ∀ r, (step r).2.s = r.s) (r : Pk.Rd) (most : Int) : (r.list most step).2.s = r.s := by
  unfold Pk.Rd.list
  rw [rloop_s step hs, rheads_s]
/-- a list of bytes, read byte by byte -/
def rbytes (r : Pk.Rd) : List UInt8 × Pk.Rd := r.list 1099511627776 byte1
set_option maxHeartbeats 1000000 in
set_option maxRecDepth 100000 in
theorem bytes_reads (g : Nat) : ReadsB rbytes 4398046511104 g 87 #[] := by
  intro r w h hf hN
  show Calls _ _ #[.pointer (some ⟨g, 0, none⟩)] _ _
  go_enter Try.func87, Try.ntmps87
  go_wp2_with fail
  refine (list_uint8 byte1 (fun _ => False) (fun _ _ => True) g 103 #[] 1099511627776 r w h (by unfold I64; omega) hN trivial (fun _ h => h.elim) (fun _ _ _ _ _ _ => trivial) (fun _ _ => by kernel_rfl) (byte_reads g)).mono ?_
  rintro e w1 ⟨v, rfl, hown, h1, hc1, -⟩
  have hr := rlist_s byte1 (fun r => rtake_s r 1) r 1099511627776
  obtain ⟨ao, cp, rfl⟩ := own_form hown
  have Hown := Lib.hid hown
  have Hr := Lib.hid hr
  clear hown hr
  go_wp2_with fail
  go_ret
  exact ⟨_, rfl, Hown.out, h1, Hr.out, hc1.mono fun _ _ h => h.elim id False.elim⟩
end Go.Proofs.Ytkajbpdhglaieaa
