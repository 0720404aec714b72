/-
  The texts that mark: markText. No condition.
-/
import Derived.Test.YtncjghmjlcohjaaProg
import Derived.Test.YtncjghmjlcohjaaNoe
import Derived.Test.YtncjghmjlcohjaaOvq
import Derived.Laws.BytesArg
namespace Go.Proofs.Ytncjghmjlcohjaa
open Go.RowKit
set_option linter.unusedSimpArgs false
set_option linter.unusedVariables false

theorem conv1 (W : World) (n : Int) : (convert 81 9 (.slice (some ⟨W.heap.size, 0, none⟩) 1 1)).run Try.prog (W.alloc (.cells #[.int .u8 n] 5)) = .ok (.string (strOfNums [n])) (W.alloc (.cells #[.int .u8 n] 5)) :=
  run_convert_bytes_arg (P := Try.prog) (W.alloc (.cells #[.int .u8 n] 5)) 81 5 Try.underlying81 Try.underlying5 W.heap.size 0 1 1 [n] rfl (fun i hi => by
    obtain rfl : i = 0 := by omega
    exact (Row.made W 5 #[.int .u8 n] (fun j => ([.int .u8 n] : List Value)[j]?) (fun j u hj => by simpa using hj)).cell (j := 0) rfl) 9 Try.underlying9
theorem strOfNums_one (n : Int) : (strOfNums [n]).size = 1 := by
  simp [strOfNums, ByteArray.size]
/-- The digits of j ahead of acc. -/
def mtA : Nat → ByteArray → ByteArray := fun j acc =>
  if h : j = 0 then acc else mtA (j / 10) (strOfNums [48 + (j : Int) % 10] ++ acc)
termination_by j => j
decreasing_by omega
/-- The text that marks the number k. -/
def mtx (k : Nat) : ByteArray := if k = 0 then ⟨#[109, 48]⟩ else ⟨#[109]⟩ ++ mtA k ByteArray.empty
theorem mtA_step {j : Nat} (h : j ≠ 0) (acc : ByteArray) : mtA j acc = mtA (j / 10) (strOfNums [48 + (j : Int) % 10] ++ acc) := by
  rw [mtA, dif_neg h]
theorem mtA_zero (acc : ByteArray) : mtA 0 acc = acc := by
  rw [mtA, dif_pos rfl]
set_option maxHeartbeats 2000000 in
theorem markText_c (k : Nat) (hk : k ≤ 1000000000000000) (w : World) :
    Calls Try.prog 43 #[.int .i64 k] w fun e w' => e = .returned (.string (mtx k)) ∧ Below w.heap.size w w' := by
  by_cases h0 : k = 0
  · have h0' : (k : Int) ≤ 0 := by omega
    go_enter Try.func43, Try.ntmps43
    go_wp2_with fail
    go_ret
    exact ⟨by rw [mtx, if_pos h0]; rfl, Below.refl _ _⟩
  have HM := hide (show mtx k = ⟨#[109]⟩ ++ mtA k ByteArray.empty by rw [mtx, if_neg h0])
  have h0' : ¬ (k : Int) ≤ 0 := by omega
  have hcv := conv1
  go_enter Try.func43, Try.ntmps43
  go_wp2_with fail
  go_loopw [0, 3] (fun kv ov wr => ∃ (j : Nat) (acc : ByteArray), kv = .int .i64 j ∧ ov = .string acc ∧ acc.size + j ≤ k ∧ Hid (mtA j acc = mtA k ByteArray.empty) ∧ Hid (Below w.heap.size w wr)) (fun kv _ _ => (intOf kv).toNat)
  case atStart => exact ⟨k, _, rfl, rfl, by show 0 + k ≤ k; omega, rfl, Below.refl _ _⟩
  case round =>
    obtain ⟨j, acc, rfl, rfl, hs, heq, hbel⟩ := hrel
    by_cases hj : j = 0
    · subst hj
      have hm : (ByteArray.mk #[109]).size = 1 := rfl
      go_wp2_with fail
      go_ret
      have he := heq.out
      rw [mtA_zero] at he
      exact ⟨by rw [HM.out, ← he]; rfl, hbel.out⟩
    · have hj' : (0 : Int) < j := by omega
      have jw := IntWalk.i64_in ((48 : Int) + (j : Int) % 10) (by omega)
      have hs1 := strOfNums_one (48 + (j : Int) % 10)
      go_wp2_with fail
      refine ⟨⟨j / 10, _, rfl, rfl, by rw [ByteArray.size_append, hs1]; omega, hide ((mtA_step hj acc).symm.trans heq.out), hide (below_alloc0 hbel.out _)⟩, by simp [intOf]; omega⟩
end Go.Proofs.Ytncjghmjlcohjaa
