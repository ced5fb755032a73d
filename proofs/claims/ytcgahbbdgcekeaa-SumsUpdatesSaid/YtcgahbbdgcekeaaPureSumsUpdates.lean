/- One word of any bytes is another one: the updated sum is their new sum, or one of the two is 0 and the other one 65535. Conditions: none beyond the row's own. -/
import Derived.Test.YtcgahbbdgcekeaaAx3
import Derived.Test.YtcgahbbdgcekeaaPureSumsOwn
import Derived.Test.YtcgahbbdgcekeaaCountP
namespace Go.Proofs.Ytcgahbbdgcekeaa.Pure
open Go.RowKit Go.Proofs.Ytcgahbbdgcekeaa.A Go.Proofs.Ytcgahbbdgcekeaa.Bits Go.Proofs.Ytcgahbbdgcekeaa.SumsP Go.Proofs.Ytcgahbbdgcekeaa.SumsEv Go.Proofs.Ytcgahbbdgcekeaa.EvP Go.Proofs.Ytcgahbbdgcekeaa.CountP Go.Proofs.YtcgahbbdgcekeaaW.PrintWords Go.Proofs.YtcgahbbdgcekeaaW.PrintLast

theorem count_f {k n : Int} (h : 1 ≤ n) (hn : n ≤ 9223372036854775807) : steelyardref01_Count.f k n = some (cnt k n) := by
  unfold steelyardref01_Count.f
  rw [if_neg (by omega), if_neg (by omega), ← tmod_cnt h hn]
  split <;> rfl
theorem update_ev {s was is : Int} (hs0 : 0 ≤ s) (hs : s ≤ 65535) (hw0 : 0 ≤ was) (hw : was ≤ 65535) (hi0 : 0 ≤ is) (hi : is ≤ 65535) :
    Ev (fun k => sums_Update.f k s was is) (65535 - fs ((65535 - s) + (65535 - was) + is)) := by
  unfold sums_Update.f
  rw [not_u16 hs0 hs, not_u16 hw0 hw, wrap_u64_id (n := 65535 - s) (by omega) (by omega), wrap_u64_id (n := 65535 - was) (by omega) (by omega), wrap_u64_id (n := is) (by omega) (by omega), wrap_u64_id (n := 65535 - s + (65535 - was)) (by omega) (by omega), wrap_u64_id (by omega) (by omega)]
  have h := fs_bd ((65535 - s) + (65535 - was) + is) (by omega)
  exact Ev.bind (fold_ev (by omega) (by omega)) (ev_eq (Ev.now _) (not_u16 h.1 h.2))
theorem SumsUpdates : steelyardlaw02_SumsUpdates.Pure := by
  intro l a is hm hr hw ha hi
  have hl : Bytes l := fun x hx => wf_u8.1 (hw x hx)
  have hi := wf_u16.1 hi
  refine Ev.rounds ?_
  unfold steelyardlaw02_SumsUpdates.f
  by_cases hp : (l.length : Int) < 2
  · exact ev_if_pos hp known_ev
  refine ev_if_neg hp ?_
  rw [wrap64_id (n := (l.length : Int) / 2) (by omega) (by omega), count_f (by omega) (by omega)]
  have hc := cnt_bd (k := a) (n := (l.length : Int) / 2) (by omega)
  generalize cnt a ((l.length : Int) / 2) = c at hc
  simp only [Option.bind_some, List.nil_append, List.length_nil, Nat.zero_add]
  obtain ⟨i, rfl⟩ := Int.eq_ofNat_of_zero_le hc.1
  have e1 : wrap64 (2 * (i : Int)) = ((2 * i : Nat) : Int) := by rw [wrap64_id (by omega) (by omega)]; omega
  rw [e1, succ_nat (2 * i) (by omega), rd_nat, rd_nat]
  refine ev_if_pos (by omega) (ev_if_pos (by omega) (ev_if_pos (by omega) (ev_if_pos (by omega) ?_)))
  have hW := ws_bd l hl true
  have b1 := hl.get (2 * i)
  have b2 := hl.get (2 * i + 1)
  rw [wrap_u16_id b1.1 (by omega), wrap_u16_id b2.1 (by omega), wrap_u16_id (n := l.getD (2 * i) 0 * 256) (by omega) (by omega), or_join_u16 8 (by omega) (by omega) (by omega) b2.1 (by omega) (by omega)]
  have hf := fs_bd (ws true l) hW.1
  have hI : InetS l = 65535 - fs (ws true l) := by unfold InetS AddS; rw [Int.zero_add]
  refine Ev.bind (inet_ev hl (by omega)) (Ev.bind (update_ev (by omega) (by omega) (by omega) (by omega) hi.1 hi.2) ?_)
  refine ev_if_pos (by omega) (ev_if_pos (by omega) (ev_if_pos (by omega) ?_))
  have hs : Bytes ((l.set (((2 * i : Nat) : Int)).toNat (is / 256 % 256)).set (((2 * i + 1 : Nat) : Int)).toNat (is % 256)) := fun x hx => by
    rcases List.mem_or_eq_of_mem_set hx with h1 | rfl
    · rcases List.mem_or_eq_of_mem_set h1 with h2 | rfl
      · exact hl x h2
      · omega
    · omega
  refine Ev.bind (inet_ev hs (by simp; omega)) ?_
  have hI2 : InetS ((l.set (((2 * i : Nat) : Int)).toNat (is / 256 % 256)).set (((2 * i + 1 : Nat) : Int)).toNat (is % 256)) = 65535 - fs (ws true l - (l.getD (2 * i) 0 * 256 + l.getD (2 * i + 1) 0) + is) := by
    unfold InetS AddS
    rw [Int.zero_add, Int.toNat_natCast, Int.toNat_natCast, ws_set_word _ _ _ (by omega) (by omega)]
    congr 2
    omega
  have hW2 : 0 ≤ ws true l - (l.getD (2 * i) 0 * 256 + l.getD (2 * i + 1) 0) + is := by
    have h3 := (ws_bd _ hs true).1
    rw [Int.toNat_natCast, Int.toNat_natCast, ws_set_word _ _ _ (by omega) (by omega)] at h3
    omega
  have hwb : 0 ≤ l.getD (2 * i) 0 * 256 + l.getD (2 * i + 1) 0 ∧ l.getD (2 * i) 0 * 256 + l.getD (2 * i + 1) 0 ≤ 65535 := by omega
  rw [hI, hI2]
  generalize l.getD (2 * i) 0 * 256 + l.getD (2 * i + 1) 0 = was at *
  generalize hA : ws true l - was + is = M at *
  have hfM := fs_bd M hW2
  have hmM := fs_mod hW2
  have hN0 : 0 ≤ 65535 - (65535 - fs (ws true l)) + (65535 - was) + is := by
    have := fs_mod hW.1
    omega
  have hfN := fs_bd _ hN0
  have hmN := fs_mod hN0
  have hmW := fs_mod hW.1
  generalize fs (65535 - (65535 - fs (ws true l)) + (65535 - was) + is) = N at *
  generalize fs M = fM at *
  by_cases q : 65535 - N = 65535 - fM
  · exact ev_if_pos q known_ev
  · refine ev_if_neg q ?_
    by_cases q0 : 65535 - N = 0
    · exact ev_if_pos q0 (ev_if_pos (by omega) known_ev)
    · exact ev_if_neg q0 (ev_if_pos (by omega) (ev_if_pos (by omega) known_ev))
end Go.Proofs.Ytcgahbbdgcekeaa.Pure
