/- Layer 4's fixed calls. -/
import Derived.Test.YtjidoedlmpjmnaaHdrY
import Derived.Test.YtjidoedlmpjmnaaHdrZ
import Derived.Test.YtjidoedlmpjmnaaAddrA
namespace Go.Proofs.Ytjidoedlmpjmnaa.Hdr
open Go.RowKit Go.Proofs.Ytjidoedlmpjmnaa.SumsP Go.Proofs.Ytjidoedlmpjmnaa.SumW Go.Proofs.Ytjidoedlmpjmnaa.Cur Go.Proofs.Ytjidoedlmpjmnaa.Own Go.Proofs.Ytjidoedlmpjmnaa.StepX Go.Proofs.Ytjidoedlmpjmnaa.AddrW Go.Proofs.Ytjidoedlmpjmnaa.Segs Go.Proofs.Ytjidoedlmpjmnaa.Mem Go.Proofs.Ytjidoedlmpjmnaa.AddrEq Go.Proofs.Ytjidoedlmpjmnaa.Bits Go.Proofs.Ytjidoedlmpjmnaa.Help Go.Proofs.YtjidoedlmpjmnaaW.PrintWords Go.Proofs.YtjidoedlmpjmnaaW.PrintLast Go.Proofs.YtjidoedlmpjmnaaW.PrintMore
set_option linter.unusedVariables false
set_option linter.unusedSimpArgs false
set_option maxRecDepth 20000
def kS : List Int := [10, 0, 0, 1, 0, 0, 0, 0, 0, 0, 0, 0, 0, 0, 0, 0]
def kD : List Int := [10, 0, 0, 2, 0, 0, 0, 0, 0, 0, 0, 0, 0, 0, 0, 0]
def kP0 : Pk := ⟨false, nA, nA, 17, 64, 0, 0, false, 0, [], []⟩
def kP1 : Pk := ⟨false, ⟨false, kS⟩, nA, 17, 64, 0, 0, false, 0, [], []⟩
def kP2 : Pk := ⟨false, ⟨false, kS⟩, ⟨false, kD⟩, 17, 64, 0, 0, false, 0, [], []⟩
def kB : List Int := [69, 0, 0, 20, 0, 0, 0, 0, 64, 17, 102, 215, 10, 0, 0, 1, 10, 0, 0, 2]
theorem kS_ok : AddrM.OkA kS := ⟨rfl, by unfold AddrM.AllB kS; decide⟩
theorem kD_ok : AddrM.OkA kD := ⟨rfl, by unfold AddrM.AllB kD; decide⟩
theorem kin (a : Int) (h : decide (-9223372036854775808 ≤ a ∧ a ≤ 9223372036854775807) = true) : In64 a := (of_decide_eq_true h : -9223372036854775808 ≤ a ∧ a ≤ 9223372036854775807)
theorem kP0_ok : OkP kP0 := ⟨nA_ok, nA_ok, kin _ rfl, kin _ rfl, kin _ rfl, kin _ rfl, kin _ rfl, fun x hx => (by cases hx), fun x hx => (by cases hx), by decide, by decide⟩
theorem kP1_ok : OkP kP1 := ⟨kS_ok, nA_ok, kin _ rfl, kin _ rfl, kin _ rfl, kin _ rfl, kin _ rfl, fun x hx => (by cases hx), fun x hx => (by cases hx), by decide, by decide⟩
theorem kP2_ok : OkP kP2 := ⟨kS_ok, kD_ok, kin _ rfl, kin _ rfl, kin _ rfl, kin _ rfl, kin _ rfl, fun x hx => (by cases hx), fun x hx => (by cases hx), by decide, by decide⟩
theorem k_put : putE kP2 = 0 ∧ putH kP2 = kB := by decide +kernel
theorem k_parse : parseH kB = (0, kP2) := by decide +kernel
theorem k_built : Try.prog.built 28 [(3, .int .i64 17), (4, .int .i64 64)] = some (flat (hseg kP0 zL)) := by rw [built_hh]; rfl
theorem info16 : (Try.prog.info? 22).map (·.size) = some 16 := by kernel_rfl
theorem k_b1 : Try.prog.built 22 [(0, .int .u8 10), (1, .int .u8 0), (2, .int .u8 0), (3, .int .u8 1)] = some (nums .u8 kS).toArray := by kernel_rfl
theorem k_b2 : Try.prog.built 22 [(0, .int .u8 10), (1, .int .u8 0), (2, .int .u8 0), (3, .int .u8 2)] = some (nums .u8 kD).toArray := by kernel_rfl
/-- Sixteen bytes stored within a packet. -/
theorem store16 {W : World} {g o : Nat} {cs cs' : List Value} (bs : List Int) (hl : bs.length = 16) (hb : W.heap[g]? = some (.cells cs.toArray 28 (0, 0))) (ho : o + 16 ≤ cs.length) (he : splice cs o (nums .u8 bs) = cs') :
    ∃ W1, (storeVar 22 ⟨g, o, none⟩ (.agg (nums .u8 bs).toArray)).run Try.prog W = .ok () W1 ∧ W1.heap[g]? = some (.cells cs'.toArray 28 (0, 0)) ∧ W.grownBy W1 (some g) := by
  have hn : (nums .u8 bs).length = 16 := by simp [nums, hl]
  refine ⟨_, run_storeVar_mid W g o 22 (nums .u8 bs).toArray ?_ (by rw [info16]; simp [hn]) (all_oneCell_toArray (fun v hv => by simp [nums] at hv; obtain ⟨a, _, rfl⟩ := hv; rfl)), ?_, setCells_grown W g _ o⟩
  · intro j hj
    have hj' : o + j < cs.length := by simp [hn] at hj; omega
    exact ⟨by rw [blk_cell hb]; simp [hj'], blk_frozen hb _⟩
  · obtain ⟨c2, h1, h2⟩ := setCells_heap (nums .u8 bs) o cs.toArray hb (by simp [hn]; omega)
    have : c2 = cs'.toArray := Array.ext' (by rw [h2, ← he])
    rw [← this]
    exact h1
theorem k_s1 : splice (hseg kP0 zL).flatten 2 (nums .u8 kS) = (hseg kP1 zL).flatten := by kernel_rfl
theorem k_s2 : splice (hseg kP1 zL).flatten 19 (nums .u8 kD) = (hseg kP2 zL).flatten := by kernel_rfl
end Go.Proofs.Ytjidoedlmpjmnaa.Hdr
