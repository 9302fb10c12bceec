/-
  Layer 27 in plain Lean: a frame in a stream; the laws' own message.
-/
import Derived.Test.YthkfcfkkamffpaaGreatZd
namespace Go.Proofs.YthkfcfkkamffpaaGreat
set_option linter.unusedVariables false
set_option linter.unusedSimpArgs false
open Wm (M)
theorem enc_len {m : M} {s : List UInt8} (h : encW m = (s, 0)) : 13 ≤ s.length ∧ s.length ≤ 1048576 := by
  obtain ⟨l, hl, hto, hf, hs, hb, rfl⟩ := encW_ok h
  have h5 := body_len l m
  rw [frame_len]
  omega
theorem enc_foll {m : M} {s : List UInt8} (h : encW m = (s, 0)) (t : List UInt8) : foll (s ++ t) = (s.length - 4, 0) := by
  obtain ⟨l, hl, hto, hf, hs, hb, rfl⟩ := encW_ok h
  have h5 := body_len l m
  rw [foll_frame t h5 hb, frame_len, show (Wm.body l m).length + 8 - 4 = (Wm.body l m).length + 4 by omega]
/-- a frame at a stream's head is told -/
theorem feed_frame {m : M} {s : List UInt8} (ho : Ok m) (h : encW m = (s, 0)) (t : List UInt8) : feedW (s ++ t) = (m :: (feedW t).1, (feedW t).2) := by
  have hl := enc_len h
  have hf := enc_foll h t
  have hd := dec_enc ho h
  have e1 : (foll (s ++ t)).1 + 4 = s.length := by rw [hf]; dsimp only; omega
  have e2 : (s ++ t).take ((foll (s ++ t)).1 + 4) = s := by rw [e1, List.take_left]
  have e3 : (s ++ t).drop ((foll (s ++ t)).1 + 4) = t := by rw [e1, List.drop_left]
  have hg := feed_good (s := s ++ t) (by rw [List.length_append]; omega) (by rw [hf]) (by rw [List.length_append]; omega) (by rw [e2, hd])
  rw [e2, e3, hd] at hg
  exact hg
/-- AskGet of "a", with the number 7 -/
def plainM : M := { Wm.only 2 7 with key := [97] }
theorem plain_ok : Ok plainM := by
  constructor <;> simp [plainM, Wm.only, Wm.nod]
theorem plain_body : Wm.body [.K] plainM = [2, 0, 0, 0, 7, 1, 97] := by
  have : Pk.free 1 = [1] := by rw [Pk.free_small (by omega)]; rfl
  simp only [Wm.body, plainM, Wm.only, List.flatMap_cons, List.flatMap_nil, Wm.fb, List.length_cons, List.length_nil, this, Nat.zero_add]
  rfl
def plainS : List UInt8 := frame [2, 0, 0, 0, 7, 1, 97]
theorem plain_enc : encW plainM = (plainS, 0) := by
  have h := encW_of (m := plainM) (l := [.K]) rfl rfl (fun c hc => by rw [List.mem_singleton.1 hc]; rfl) rfl (by rw [plain_body]; decide)
  rw [plain_body] at h
  exact h
theorem plain_len : plainS.length = 15 := by unfold plainS; rw [frame_len]; rfl
theorem plain_take : plainS.take 11 = [0, 0, 0, 11, 2, 0, 0, 0, 7, 1, 97] := by
  unfold plainS frame
  rw [List.take_append_of_le_length (by rw [fore_len]; decide)]
  rfl
theorem plain_dec : decW plainS = (plainM, 0) := dec_enc plain_ok plain_enc
theorem plain_more : (decW (plainS ++ [0])).2 = 271 := dec_more plain_enc (by simp)
theorem plain_feed : feedW (plainS ++ plainS.take 3) = ([plainM], 0, plainS.take 3) := by
  rw [feed_frame plain_ok plain_enc, feed_short (by rw [List.length_take]; omega)]
theorem zero_enc : encW zeroM = ([], 270) := by unfold encW; rfl
end Go.Proofs.YthkfcfkkamffpaaGreat
