/- Run. -/
import Derived.Test.YtcmibbhfocfccaaCurW7
import Derived.OwnWalk
namespace Go.Proofs.Ytcmibbhfocfccaa.Cur
open Go.RowKit Go.Proofs.Ytcmibbhfocfccaa.Segs Go.Proofs.Ytcmibbhfocfccaa.Own Go.Proofs.Ytcmibbhfocfccaa.CurP Go.Proofs.Ytcmibbhfocfccaa.Mem Go.Proofs.Ytcmibbhfocfccaa.Bits Go.Proofs.Ytcmibbhfocfccaa.Help Go.Proofs.YtcmibbhfocfccaaW.PrintWords Go.Proofs.YtcmibbhfocfccaaW.PrintLast Go.Proofs.YtcmibbhfocfccaaW.PrintMore
set_option linter.unusedVariables false
set_option linter.unusedSimpArgs false
theorem alloc_size (w : World) (o : Obj) : (w.alloc o).heap.size = w.heap.size + 1 := Array.size_push _
def RunPost (w : World) (xs : List Int) (l : List (Int × Int)) (e : Ending) (w' : World) : Prop :=
  ∃ v, e = .returned (.tuple #[v, .int .i64 ((runL xs 0 l).2.1 : Nat), .int .i64 (runL xs 0 l).2.2]) ∧ Kd.S dV 40 w' w.heap.size (fun _ => True) v (runL xs 0 l).1 ∧ Below w.heap.size w w'
set_option maxHeartbeats 8000000 in
theorem Run_any (w : World) (A Al : Option Addr) (c cl : Nat) (xs : List Int) (l : List (Int × Int)) (hr : Kd.C (Kd.int .u8) w A xs.length xs) (hc : xs.length ≤ c) (hc63 : xs.length ≤ 9223372036854775807)
    (ho : dO.C w Al l.length l) (hlc : l.length ≤ cl) (hlb : ∀ o ∈ l, -9223372036854775808 ≤ o.2 ∧ o.2 ≤ 9223372036854775807) (hx : AllB xs) (hb : xs.length ≤ 140737488351232) (hsz : l.length * 32 ≤ 140737488355328) :
    Calls Try.prog 9 #[.slice A xs.length c, .slice Al l.length cl] w (RunPost w xs l) := by
  have H := Aside0.mk (And.intro hr (And.intro hc (And.intro hc63 (And.intro ho (And.intro hlc (And.intro hlb (And.intro hx (And.intro hb hsz))))))))
  clear hr hc hc63 ho hlc hlb hx hb hsz
  go_enter Try.func9, Try.ntmps9
  go_wp2_with fail
  have hB : Below w.heap.size w ((((w.alloc (.cells #[.slice Al l.length cl] 29)).alloc (.cells #[.slice A xs.length c, .int .i64 0] 61)).alloc (.cells #[.pointer (some ⟨w.heap.size + 1, 0, none⟩)] 59)).alloc (.cells #[.slice none 0 0] 25)) := below_alloc (below_alloc (below_alloc (below_alloc (Below.refl _ _) _) _) _) _
  have b0 : ((((w.alloc (.cells #[.slice Al l.length cl] 29)).alloc (.cells #[.slice A xs.length c, .int .i64 0] 61)).alloc (.cells #[.pointer (some ⟨w.heap.size + 1, 0, none⟩)] 59)).alloc (.cells #[.slice none 0 0] 25)).heap[w.heap.size]? = some (.cells #[.slice Al l.length cl] 29 (0, 0)) := blk_alloc (blk_alloc (blk_alloc (blk_new w _) _) _) _
  have b1 : ((((w.alloc (.cells #[.slice Al l.length cl] 29)).alloc (.cells #[.slice A xs.length c, .int .i64 0] 61)).alloc (.cells #[.pointer (some ⟨w.heap.size + 1, 0, none⟩)] 59)).alloc (.cells #[.slice none 0 0] 25)).heap[w.heap.size + 1]? = some (.cells #[.slice A xs.length c, .int .i64 0] 61 (0, 0)) := blk_alloc (blk_alloc (blk_new_at (by rw [alloc_size])) _) _
  have b2 : ((((w.alloc (.cells #[.slice Al l.length cl] 29)).alloc (.cells #[.slice A xs.length c, .int .i64 0] 61)).alloc (.cells #[.pointer (some ⟨w.heap.size + 1, 0, none⟩)] 59)).alloc (.cells #[.slice none 0 0] 25)).heap[w.heap.size + 1 + 1]? = some (.cells #[.pointer (some ⟨w.heap.size + 1, 0, none⟩)] 59 (0, 0)) := blk_alloc (blk_new_at (by rw [alloc_size, alloc_size])) _
  have b3 : ((((w.alloc (.cells #[.slice Al l.length cl] 29)).alloc (.cells #[.slice A xs.length c, .int .i64 0] 61)).alloc (.cells #[.pointer (some ⟨w.heap.size + 1, 0, none⟩)] 59)).alloc (.cells #[.slice none 0 0] 25)).heap[w.heap.size + 1 + 1 + 1]? = some (.cells #[.slice none 0 0] 25 (0, 0)) := blk_new_at (by rw [alloc_size, alloc_size, alloc_size])
  generalize ((((w.alloc (.cells #[.slice Al l.length cl] 29)).alloc (.cells #[.slice A xs.length c, .int .i64 0] 61)).alloc (.cells #[.pointer (some ⟨w.heap.size + 1, 0, none⟩)] 59)).alloc (.cells #[.slice none 0 0] 25)) = W at *
  have e1 := blk_new W (.cells #[.int .i64 0] 26)
  have hB1 := below_alloc hB (.cells #[.int .i64 0] 26)
  have hF : RunF w (W.alloc (.cells #[.int .i64 0] 26)) (w.heap.size + 1 + 1 + 1) (w.heap.size + 1 + 1) (w.heap.size + 1) W.heap.size A c xs (.slice none 0 0) [] 0 :=
    ⟨blk_alloc b3 _, blk_alloc b2 _, e1, ⟨blk_alloc b1 _, Kd.C_below H.out.1 hB1, Nat.zero_le _, H.out.2.1, H.out.2.2.1⟩, H.out.1, Kd.S_nil _ _ _ _ _, hB1, by omega⟩
  have hrun := run1_any w (W.alloc (.cells #[.int .i64 0] 26)) w.heap.size (w.heap.size + 1 + 1 + 1) (w.heap.size + 1 + 1) (w.heap.size + 1) W.heap.size A Al c cl xs l (blk_alloc b0 _) H.out.2.2.2.1 H.out.2.2.2.2.1 H.out.2.2.2.2.2.1 hF (by omega) H.out.2.2.2.2.2.2.1 H.out.2.2.2.2.2.2.2.1 H.out.2.2.2.2.2.2.2.2
  have htry := try_any 24 _ W (RunE w (w.heap.size + 1 + 1 + 1) (w.heap.size + 1 + 1) (w.heap.size + 1) W.heap.size A c xs l) (fun w => by kernel_rfl) (fun k W ⟨v, h, _⟩ => h.er) hrun
  have hWs := hB.size
  clear hrun hF hB1 e1 b0 b1 b2 b3 hB
  refine htry.mono ?_
  rintro e w1 ⟨k, W1, rfl, ⟨v, hF, rfl⟩, hg⟩
  have hB := hF.b.grown hg hF.b.size (fun k hk => by injection hk with hk; omega)
  have c0 := blk_cell (blk_grown hF.out hg (by simpa using blk_ne hF.out hF.er (by decide))) 0
  have c1 := blk_cell (blk_grown hF.t hg (by simpa using blk_ne hF.t hF.er (by decide))) 0
  have c2 := blk_cell (blk_grown hF.tape.b hg (by simpa using blk_ne hF.tape.b hF.er (by decide))) 1
  have hS : Kd.S dV 40 w1 w.heap.size (fun _ => True) v (runL xs 0 l).1 := Kd.S_mono (Kd.S_grown (Kd.S_types hF.row hF.er (by decide)) hg (fun k hk => by simpa using hk.2)) (fun _ _ => trivial)
  obtain ⟨va, vc, rfl⟩ := Kd.S_slice hS
  have c0' : w1.cell? ⟨w.heap.size + 1 + 1 + 1, 0, none⟩ = some (.slice va (runL xs 0 l).1.length vc) := c0
  have c1' : w1.cell? ⟨w.heap.size + 1 + 1, 0, none⟩ = some (.pointer (some ⟨w.heap.size + 1, 0, none⟩)) := c1
  have c2' : w1.cell? ⟨w.heap.size + 1, 1, none⟩ = some (.int .i64 ((runL xs 0 l).2.1 : Nat)) := c2
  have HP : Aside0 (RunPost w xs l (.returned (.tuple #[.slice va (runL xs 0 l).1.length vc, .int .i64 ((runL xs 0 l).2.1 : Nat), .int .i64 (runL xs 0 l).2.2])) w1) := ⟨_, rfl, hS, hB⟩
  have HP2 : Aside0 (∀ n, RunPost w xs l (.returned (.tuple #[.slice va (runL xs 0 l).1.length vc, .int .i64 ((runL xs 0 l).2.1 : Nat), .int .i64 (runL xs 0 l).2.2])) (w1.drewN n)) := ⟨fun n => ⟨_, rfl, Kd.S_drewN hS n, pw_below_drewN hB n⟩⟩
  clear htry c0 c1 c2 hS hB hF hg
  generalize (runL xs 0 l).1.length = rl at *
  generalize hra : (runL xs 0 l).2.1 = ra at *
  generalize hrk : (runL xs 0 l).2.2 = rk at *
  have HRR := Aside0.mk (And.intro hra hrk)
  clear hra hrk
  go_wp2_with fail
  go_quiet (fail)
  go_wp2_with fail
  go_ret3
  exact HP2.out _
end Go.Proofs.Ytcmibbhfocfccaa.Cur
