/- Lists of values and of operations, plainly. -/
import Derived.Test.YtcmibbhfocfccaaAxo
import Derived.Test.YtcmibbhfocfccaaBits
namespace Go.Proofs.Ytcmibbhfocfccaa.Pure
open Go.RowKit Go.Proofs.Ytcmibbhfocfccaa.A
set_option linter.unusedVariables false
theorem bytes_wf {xs : List Int} (h : ∀ x ∈ xs, (fun x => (Lit.int .u8 x).wf = true) x) : CurP.AllB xs := fun x hx => by have := Bits.wf_u8.1 (h x hx); omega
theorem bkL_mem {α : Type} {bk : α → Nat} {l : List α} {x : α} (h : x ∈ l) : bk x ≤ Open.bkL bk l := by
  induction l with
  | nil => cases h
  | cons y r ih =>
    rw [Open.bkL]
    rcases List.mem_cons.1 h with rfl | h
    · omega
    · have := ih h; omega
theorem VOk_of {l : List S66} (hw : ∀ x ∈ l, wf66 x) (hb : Open.bkL bk66 l ≤ 1048576) : VOk l := by
  have b0 := Open.bkL_len bk66 (fun _ => Nat.le_add_left _ _) l
  refine ⟨by omega, fun v hv => ?_⟩
  have h := hw v hv
  have h1 := Bits.wf_u64.1 h.1
  have h2 := bkL_mem (bk := bk66) hv
  have h3 := Open.bkL_len (fun _ => 1) (fun _ => Nat.le_refl _) v.f1
  unfold bk66 at h2
  dsimp only at h2 h3
  exact ⟨by omega, by omega, by have : Open.bkL (fun x => (fun x => ((fun (_ : Int) => 1) x.f0 + (fun xs => Open.bkL (fun (_ : Int) => 1) xs + 1) x.f1) + 1) x) l ≤ 1048576 := hb; dsimp only at this; omega, bytes_wf h.2.2.2⟩
theorem OOk_of {l : List S44} (hw : ∀ x ∈ l, wf44 x) (hb : Open.bkL bk44 l ≤ 1048576) : OOk l := by
  have b0 := Open.bkL_len bk44 (fun _ => Nat.le_add_left _ _) l
  exact ⟨by omega, fun o ho => Bits.wf_i64.1 (hw o ho).2⟩
end Go.Proofs.Ytcmibbhfocfccaa.Pure
