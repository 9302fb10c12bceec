/-
  Writers and Readers that the call itself has made: each step keeps what was there before the call.
-/
import Derived.Test.YtlhdbkbgedlmnaaDoorRd
namespace Go.Proofs.YtlhdbkbgedlmnaaDoor
open Go.RowKit
set_option linter.unusedVariables false

/-- In w, reached from w0, the Writer g holds xs in the slice v; g and its row are new since w0, nothing that was there in w0 has turned. -/
structure Mine (w0 w : World) (g : Nat) (v : Value) (xs : List UInt8) : Prop where
  is : IsW w g v xs
  chg : Chg (fun _ => False) w0 w
  g0 : w0.heap.size ≤ g
  v0 : ∀ k, v.ownBlock = some k → w0.heap.size ≤ k
structure MineR (w0 w : World) (g : Nat) (r : Pk.Rd) : Prop where
  is : IsR w g r
  chg : Chg (fun _ => False) w0 w
  g0 : w0.heap.size ≤ g
theorem Chg.new {S : Nat → Prop} {w0 w w' : World} (h : Chg (fun _ => False) w0 w) (hc : Chg S w w') (hs : ∀ k, S k → w0.heap.size ≤ k) : Chg (fun _ => False) w0 w' :=
  h.andThen hc fun k hk hS => by have := hs k hS; omega
theorem Mine.wrote {w0 w w' : World} {g : Nat} {v : Value} {xs ys : List UInt8} (h : Mine w0 w g v xs) (hw : Wrote w w' g v ys) : ∃ v', Mine w0 w' g v' ys := by
  obtain ⟨v', h1, hc, hv⟩ := hw
  refine ⟨v', h1, h.chg.new hc ?_, h.g0, ?_⟩
  · rintro k (rfl | hk)
    · exact h.g0
    · exact h.v0 k hk
  · intro k hk
    rcases hv k hk with h2 | h2
    · exact h.v0 k h2
    · have := h.chg.size; omega
/-- the Writer g turns, another one, g2, does not; and their rows stay apart -/
theorem Mine.wrote2 {w0 w w' : World} {g g2 : Nat} {v v2 : Value} {xs ys zs : List UInt8} (h : Mine w0 w g v xs) (hw : Wrote w w' g v ys) (h2 : Mine w0 w g2 v2 zs) (hne : g ≠ g2) (hap : ∀ k, v.ownBlock = some k → v2.ownBlock ≠ some k) :
    ∃ v', Mine w0 w' g v' ys ∧ Mine w0 w' g2 v2 zs ∧ ∀ k, v'.ownBlock = some k → v2.ownBlock ≠ some k := by
  obtain ⟨v', h3⟩ := h.wrote hw
  obtain ⟨v'', h1, hc, hv⟩ := hw
  have e : v'' = v' := by
    have a := h1.blk
    have b := h3.is.blk
    unfold Blk at a b
    rw [a] at b
    injection b with b
    injection b with b
    simpa using b
  subst e
  refine ⟨v'', h3, ⟨⟨h2.is.blk.chg hc ?_, own_chg h2.is.own hc ?_⟩, h3.chg, h2.g0, h2.v0⟩, ?_⟩
  · rintro (e | e)
    · exact hne e.symm
    · exact own_blk_ne h.is.own h2.is.blk (by decide) e
  · rintro k hk (e | e)
    · subst e; exact own_blk_ne h2.is.own h.is.blk (by decide) hk
    · exact hap k e hk
  · intro k hk e
    rcases hv k hk with h4 | h4
    · exact hap k h4 e
    · have := (h2.is.own.lt k e).2; omega
theorem Mine.quiet {w0 w : World} {g : Nat} {v : Value} {xs : List UInt8} (h : Mine w0 w g v xs) (n : Nat) : Mine w0 (w.drewN n) g v xs := ⟨⟨h.is.blk.drewN n, h.is.own⟩, h.chg.drewN n, h.g0, h.v0⟩
theorem Mine.below {w0 w w' : World} {g : Nat} {v : Value} {xs : List UInt8} (h : Mine w0 w g v xs) (hc : Chg (fun _ => False) w w') : Mine w0 w' g v xs :=
  ⟨⟨h.is.blk.chg hc (fun h => h), own_chg h.is.own hc (fun _ _ h => h)⟩, h.chg.trans hc, h.g0, h.v0⟩
theorem MineR.red {w0 w w' : World} {g : Nat} {r r' : Pk.Rd} (h : MineR w0 w g r) (hr : Red w w' g r') : MineR w0 w' g r' := ⟨hr.1, h.chg.new hr.2 fun k e => by subst e; exact h.g0, h.g0⟩
theorem MineR.quiet {w0 w : World} {g : Nat} {r : Pk.Rd} (h : MineR w0 w g r) (n : Nat) : MineR w0 (w.drewN n) g r := ⟨h.is.drewN n, h.chg.drewN n, h.g0⟩
theorem MineR.below {w0 w w' : World} {g : Nat} {r : Pk.Rd} (h : MineR w0 w g r) (hc : Chg (fun _ => False) w w') : MineR w0 w' g r := ⟨h.is.chg hc (fun h => h), h.chg.trans hc, h.g0⟩
theorem Mine.reads {w0 w w' : World} {g gr : Nat} {v : Value} {xs : List UInt8} {r r' : Pk.Rd} (h : Mine w0 w g v xs) (hr : MineR w0 w gr r) (hd : Red w w' gr r') : Mine w0 w' g v xs ∧ MineR w0 w' gr r' := by
  have hne : g ≠ gr := h.is.blk.ne_ hr.is.blk (by decide)
  exact ⟨⟨⟨h.is.blk.chg hd.2 hne, own_chg h.is.own hd.2 (fun k hk e => by subst e; exact own_blk_ne h.is.own hr.is.blk (by decide) hk)⟩, (hr.red hd).chg, h.g0, h.v0⟩, hr.red hd⟩
theorem MineR.writes {w0 w w' : World} {g gr : Nat} {v : Value} {xs ys : List UInt8} {r : Pk.Rd} (hr : MineR w0 w gr r) (h : Mine w0 w g v xs) (hw : Wrote w w' g v ys) : ∃ v', Mine w0 w' g v' ys ∧ MineR w0 w' gr r := by
  obtain ⟨v', h3⟩ := h.wrote hw
  obtain ⟨v'', h1, hc, hv⟩ := hw
  refine ⟨v', h3, hr.is.chg hc ?_, h3.chg, hr.g0⟩
  rintro (e | e)
  · exact h.is.blk.ne_ hr.is.blk (by decide) e.symm
  · exact own_blk_ne h.is.own hr.is.blk (by decide) e
end Go.Proofs.YtlhdbkbgedlmnaaDoor
