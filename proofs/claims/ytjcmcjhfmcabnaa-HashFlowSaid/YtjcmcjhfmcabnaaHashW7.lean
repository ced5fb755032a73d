/- The walks of Mix, Pair, Port, known. -/
import Derived.Test.YtjcmcjhfmcabnaaHashW6
namespace Go.Proofs.Ytjcmcjhfmcabnaa.Hash
open Go.RowKit Go.Proofs.Ytjcmcjhfmcabnaa.Bits Go.Proofs.Ytjcmcjhfmcabnaa.Help Go.Proofs.YtjcmcjhfmcabnaaW.PrintWords Go.Proofs.YtjcmcjhfmcabnaaW.PrintLast Go.Proofs.YtjcmcjhfmcabnaaW.PrintMore
set_option linter.unusedVariables false
set_option linter.unusedSimpArgs false
def mix1 (n : Int) : Int := add64 n 11400714819323198485
def mix2 (n : Int) : Int := IntKind.u64.wrap (xor64 n (n / 2 ^ 30) * 13787848793156543929)
def mix3 (n : Int) : Int := IntKind.u64.wrap (xor64 n (n / 2 ^ 27) * 10723151780598845931)
def mix4 (n : Int) : Int := xor64 n (n / 2 ^ 31)
def mixN (n : Int) : Int := mix4 (mix3 (mix2 (mix1 n)))
def pairN (seed a b : Int) : Int := mixN (xor64 (mixN (xor64 (mixN seed) a)) b)
def portN (h : Int) : Int := 49152 + h.tmod 16384
theorem Mix_any (n : Int) (w : World) : Calls Try.prog 13 #[.int .u64 n] w fun e w' => e = .returned (.int .u64 (mixN n)) ∧ w' = w := by
  go_enter Try.func13, Try.ntmps13
  go_wp2_with fail
  go_ret
  exact ⟨rfl, rfl⟩
theorem RefMix_any (n : Int) (w : World) : Calls Try.prog 14 #[.int .u64 n] w fun e w' => e = .returned (.int .u64 (mixN n)) ∧ w' = w := by
  go_enter Try.func14, Try.ntmps14
  go_wp2_with fail
  go_ret
  exact ⟨rfl, rfl⟩
theorem Port_any (h : Int) (w : World) (h0 : 0 ≤ h) (h1 : h < 18446744073709551616) : Calls Try.prog 19 #[.int .u64 h] w fun e w' => e = .returned (.int .i64 (portN h)) ∧ w' = w := by
  have e1 : h.tmod 16384 = h % 16384 := Int.tmod_eq_emod_of_nonneg h0
  go_enter Try.func19, Try.ntmps19
  go_wp2_with fail
  go_ret
  refine ⟨?_, rfl⟩
  unfold portN
  rw [e1]
  rfl
theorem RefPair_any (s a b : Int) (w : World) : Calls Try.prog 16 #[.int .u64 s, .int .u64 a, .int .u64 b] w fun e w' => e = .returned (.int .u64 (pairN s a b)) ∧ w' = w := by
  go_enter Try.func16, Try.ntmps16
  go_wp2_with fail
  refine (RefMix_any _ _).mono ?_
  rintro e w' ⟨rfl, rfl⟩
  go_wp2_with fail
  refine (RefMix_any _ _).mono ?_
  rintro e w' ⟨rfl, rfl⟩
  go_wp2_with fail
  refine (RefMix_any _ _).mono ?_
  rintro e w' ⟨rfl, rfl⟩
  go_wp2_with fail
  go_ret
  exact ⟨rfl, rfl⟩
theorem idx0 (x y : Value) (w : World) : (Instr.index 52 (.agg #[x, y]) (.int .i64 0)).run Try.prog w = .ok x w := by
  have h := Try.underlying52
  simp [Instr.index, run_underlying h, asIntOf, go_sem]
theorem idx1 (x y : Value) (w : World) : (Instr.index 52 (.agg #[x, y]) (.int .i64 1)).run Try.prog w = .ok y w := by
  have h := Try.underlying52
  simp [Instr.index, run_underlying h, asIntOf, go_sem]
attribute [local go_sem] idx0 idx1
theorem Pair_any (s a b : Int) (w : World) : Calls Try.prog 15 #[.int .u64 s, .int .u64 a, .int .u64 b] w fun e w' => e = .returned (.int .u64 (pairN s a b)) ∧ w' = w := by
  go_enter Try.func15, Try.ntmps15
  go_wp2
  go_loop [7, 14] (fun v7 v14 => (v7 = .int .u64 s ∧ v14 = .int .i64 0) ∨ (v7 = .int .u64 (xor64 (mixN s) a) ∧ v14 = .int .i64 1) ∨ (v7 = .int .u64 (xor64 (mixN (xor64 (mixN s) a)) b) ∧ v14 = .int .i64 2)) (fun _ v14 => 2 - (intOf v14).toNat)
  case atStart => exact .inl ⟨rfl, rfl⟩
  case round =>
    rcases hrel with ⟨rfl, rfl⟩ | ⟨rfl, rfl⟩ | ⟨rfl, rfl⟩
    · go_wp2_with fail
      refine (Mix_any _ _).mono ?_
      rintro e w' ⟨rfl, rfl⟩
      go_wp2_with fail
      go_round
      case rel => exact .inr (.inl ⟨rfl, rfl⟩)
      case measure => simp [intOf]
    · go_wp2_with fail
      refine (Mix_any _ _).mono ?_
      rintro e w' ⟨rfl, rfl⟩
      go_wp2_with fail
      go_round
      case rel => exact .inr (.inr ⟨rfl, rfl⟩)
      case measure => simp [intOf]
    · go_wp2_with fail
      refine (Mix_any _ _).mono ?_
      rintro e w' ⟨rfl, rfl⟩
      go_wp2_with fail
      go_ret
      exact ⟨rfl, rfl⟩
def bs15 : List Int := [0, 1, 2, 3, 4, 5, 6, 7, 8, 9, 10, 11, 12, 13, 14]
theorem sip_known : sip 506097522914230528 1084818905618843912 bs15 = 11613035633349379557 := by decide
theorem mix_known : mixN 0 = 16294208416658607535 := by decide
end Go.Proofs.Ytjcmcjhfmcabnaa.Hash
