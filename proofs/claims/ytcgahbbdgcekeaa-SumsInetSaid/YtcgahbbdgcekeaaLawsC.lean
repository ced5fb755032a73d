/- The two laws that lend bytes: walked by hand. -/
import Derived.Test.YtcgahbbdgcekeaaLent
import Derived.Test.YtcgahbbdgcekeaaKnown
import Derived.Test.YtcgahbbdgcekeaaRefSums
import Derived.Test.YtcgahbbdgcekeaaSumsEv2
namespace Go.Proofs.Ytcgahbbdgcekeaa.A
open Go.RowKit Go.Proofs.Ytcgahbbdgcekeaa.Bits Go.Proofs.Ytcgahbbdgcekeaa.SumsP Go.Proofs.Ytcgahbbdgcekeaa.SumsEv Go.Proofs.Ytcgahbbdgcekeaa.EvP Go.Proofs.YtcgahbbdgcekeaaW.PrintWords Go.Proofs.YtcgahbbdgcekeaaW.PrintLast Go.Proofs.YtcgahbbdgcekeaaW.PrintMore Go.Proofs.Ytcgahbbdgcekeaa.Help
set_option linter.unusedVariables false
set_option linter.unusedSimpArgs false
open Classical in
noncomputable def steelyardlaw02_SumsCrc.f (l0 : List Int) (a1 : Int) : Option Bool := if l0.length ≤ 140737488351232 ∧ Bytes l0 ∧ 0 ≤ a1 ∧ a1 ≤ 4294967295 then some true else none
theorem Ev.both {α β : Type} {g : Nat → Option α} {f : Nat → Option β} {a : α} {b : β} (h : Ev g a) (k : Ev f b) : ∃ n, g n = some a ∧ f n = some b := by
  obtain ⟨m, hm⟩ := h
  obtain ⟨n, hn⟩ := k
  exact ⟨max m n, hm _ (Nat.le_max_left _ _), hn _ (Nat.le_max_right _ _)⟩
set_option maxHeartbeats 2000000 in
theorem steelyardlaw02_SumsCrc.calls (A0 : Option Addr) (c0 : Nat) (l0 : List Int) (a1 : Int) (r : Bool) (w : World) (hr0 : Kd.C (Kd.int .u8) w A0 l0.length l0) (hc0 : l0.length ≤ c0) (h : steelyardlaw02_SumsCrc.f l0 a1 = some r) :
    Calls Try.prog 3 #[.slice A0 l0.length c0, .int .u32 a1] w fun e w' => e = .returned (.bool r) ∧ Below w.heap.size w w' := by
  unfold steelyardlaw02_SumsCrc.f at h
  split at h
  case isFalse => cases h
  case isTrue hb =>
  obtain ⟨hb, hl, h0, h1⟩ := hb
  obtain rfl := Option.some.inj h
  have e1 : ((BitVec.ofNat 32 a1.toNat).toNat : Int) = a1 := bv_of h0 (by omega)
  obtain ⟨ka, ha, ha'⟩ := Ev.both (crc_ev hl (by omega)) (refcrc_ev hl (by omega))
  obtain ⟨kb, hb1, hb2⟩ := Ev.both (more_ev (BitVec.ofNat 32 a1.toNat) hl (by omega)) (refmore_ev (BitVec.ofNat 32 a1.toNat) hl (by omega))
  rw [e1] at hb1 hb2
  have HB := Aside0.mk hb
  have HA := Aside0.mk (And.intro ha ha')
  have HC := Aside0.mk (And.intro hb1 hb2)
  have HR := Aside0.mk hr0
  have HC0 := Aside0.mk hc0
  generalize ((MoreS 0#32 l0).toNat : Int) = va at *
  generalize ((MoreS (BitVec.ofNat 32 a1.toNat) l0).toNat : Int) = vb at *
  clear ha ha' hb1 hb2 hr0 hc0 hl h0 h1 e1 h
  go_enter Try.func3, Try.ntmps3
  go_wp2_with fail
  refine (Lent_calls A0 c0 l0 _ HR.out HB.out).mono ?_
  rintro e w1 ⟨g, rfl, hg, hL, hB⟩
  have HL := Aside0.mk hL
  have HW := Aside0.mk hB
  have HR1 := Aside0.mk (Kd.C_below HR.out hB)
  clear hL hB HR hg
  go_wp2_with fail
  refine (sums_Crc.calls ka (some ⟨g, 0, none⟩) (l0.length + 8) l0 va _ (HL.out.reads (by have := HB.out; omega)) (by omega) HA.out.1).mono ?_
  rintro e w' ⟨rfl, ⟨n1, rfl⟩⟩
  go_wp2_with fail
  refine (steelyardref02_Crc.calls ka A0 c0 l0 va _ (Kd.C_drewN HR1.out _) HC0.out HA.out.2).mono ?_
  rintro e w' ⟨rfl, ⟨n2, rfl⟩⟩
  go_wp2_with fail
  refine (sums_More.calls kb a1 (some ⟨g, 0, none⟩) (l0.length + 8) l0 vb _ (Kd.C_drewN (HL.out.reads (by have := HB.out; omega)) _) (by omega) HC.out.1).mono ?_
  rintro e w' ⟨rfl, ⟨n3, rfl⟩⟩
  go_wp2_with fail
  refine (steelyardref02_More.calls kb a1 A0 c0 l0 vb _ (Kd.C_drewN HR1.out _) HC0.out HC.out.2).mono ?_
  rintro e w' ⟨rfl, ⟨n4, rfl⟩⟩
  go_wp2_with fail
  refine (Kept_calls g A0 c0 l0 _ (HL.out.drew _) (Kd.C_drewN HR1.out _) HB.out).mono ?_
  rintro e w' ⟨rfl, ⟨n5, rfl⟩⟩
  go_wp2_with fail
  refine (steelyardlaw02_known.calls true _ rfl).mono ?_
  rintro e w2 ⟨rfl, hB2⟩
  have HW2 := Aside0.mk hB2
  clear hB2
  go_wp2
  go_ret
  exact ⟨rfl, below_step (pw_below_drewN HW.out _) HW2.out⟩
open Classical in
noncomputable def steelyardlaw02_SumsInet.f (l0 : List Int) (a1 a2 a3 : Int) : Option Bool := if l0.length ≤ 140737488351232 ∧ Bytes l0 ∧ (0 ≤ a1 ∧ a1 ≤ 65535) ∧ (0 ≤ a2 ∧ a2 ≤ 65535) ∧ (0 ≤ a3 ∧ a3 ≤ 65535) then some true else none
theorem refupdate_f {s was is : Int} (hs0 : 0 ≤ s) (hs : s ≤ 65535) (hw0 : 0 ≤ was) (hw : was ≤ 65535) (hi0 : 0 ≤ is) (hi : is ≤ 65535) : steelyardref02_Update.f s was is = some (65535 - fs ((65535 - s) + (65535 - was) + is)) := by
  unfold steelyardref02_Update.f
  have hf := fs_bd ((65535 - s) + (65535 - was)) (by omega)
  have hg := fs_bd ((65535 - s) + (65535 - was) + is) (by omega)
  rw [wrap_u16_id (n := 65535 - s) (by omega) (by omega), wrap_u16_id (n := 65535 - was) (by omega) (by omega), round_f (by omega) (by omega) (by omega) (by omega)]
  simp only [Option.bind_some]
  rw [round_f hf.1 hf.2 hi0 hi]
  simp only [Option.bind_some]
  rw [fs_add (by omega) hi0, wrap_u16_id (by omega) (by omega)]
set_option maxHeartbeats 2000000 in
theorem steelyardlaw02_SumsInet.calls (A0 : Option Addr) (c0 : Nat) (l0 : List Int) (a1 : Int) (a2 : Int) (a3 : Int) (r : Bool) (w : World) (hr0 : Kd.C (Kd.int .u8) w A0 l0.length l0) (hc0 : l0.length ≤ c0) (h : steelyardlaw02_SumsInet.f l0 a1 a2 a3 = some r) :
    Calls Try.prog 7 #[.slice A0 l0.length c0, .int .u16 a1, .int .u16 a2, .int .u16 a3] w fun e w' => e = .returned (.bool r) ∧ Below w.heap.size w w' := by
  unfold steelyardlaw02_SumsInet.f at h
  split at h
  case isFalse => cases h
  case isTrue hb =>
  obtain ⟨hb, hl, h1, h2, h3⟩ := hb
  obtain rfl := Option.some.inj h
  obtain ⟨ka, ha, ha'⟩ := Ev.both (add_ev h1.1 h1.2 hl (by omega)) (refadd_ev h1.1 h1.2 hl (by omega))
  obtain ⟨kb, hb1, hb2⟩ := Ev.both (inet_ev hl (by omega)) (refinet_ev hl (by omega))
  obtain ⟨kc, hc⟩ := (Pure.update_ev h1.1 h1.2 h2.1 h2.2 h3.1 h3.2).rounds
  have hd := refupdate_f h1.1 h1.2 h2.1 h2.2 h3.1 h3.2
  have HB := Aside0.mk hb
  have HA := Aside0.mk (And.intro ha ha')
  have HC := Aside0.mk (And.intro hb1 hb2)
  have HD := Aside0.mk (And.intro hc hd)
  have HR := Aside0.mk hr0
  have HC0 := Aside0.mk hc0
  generalize AddS a1 l0 = va at *
  generalize InetS l0 = vb at *
  generalize 65535 - fs ((65535 - a1) + (65535 - a2) + a3) = vc at *
  clear ha ha' hb1 hb2 hc hd hr0 hc0 hl h1 h2 h3 h
  go_enter Try.func7, Try.ntmps7
  go_wp2_with fail
  refine (Lent_calls A0 c0 l0 _ HR.out HB.out).mono ?_
  rintro e w1 ⟨g, rfl, hg, hL, hB⟩
  have HL := Aside0.mk hL
  have HW := Aside0.mk hB
  have HR1 := Aside0.mk (Kd.C_below HR.out hB)
  clear hL hB HR hg
  go_wp2_with fail
  refine (sums_Add.calls ka a1 (some ⟨g, 0, none⟩) (l0.length + 8) l0 va _ (HL.out.reads (by have := HB.out; omega)) (by omega) HA.out.1).mono ?_
  rintro e w' ⟨rfl, ⟨n1, rfl⟩⟩
  go_wp2_with fail
  refine (steelyardref02_Add.calls ka a1 A0 c0 l0 va _ (Kd.C_drewN HR1.out _) HC0.out HA.out.2).mono ?_
  rintro e w' ⟨rfl, ⟨n2, rfl⟩⟩
  go_wp2_with fail
  refine (sums_Inet.calls kb (some ⟨g, 0, none⟩) (l0.length + 8) l0 vb _ (Kd.C_drewN (HL.out.reads (by have := HB.out; omega)) _) (by omega) HC.out.1).mono ?_
  rintro e w' ⟨rfl, ⟨n3, rfl⟩⟩
  go_wp2_with fail
  refine (steelyardref02_Inet.calls kb A0 c0 l0 vb _ (Kd.C_drewN HR1.out _) HC0.out HC.out.2).mono ?_
  rintro e w' ⟨rfl, ⟨n4, rfl⟩⟩
  go_wp2_with fail
  refine (sums_Update.calls kc a1 a2 a3 vc _ HD.out.1).mono ?_
  rintro e w' ⟨rfl, ⟨n5, rfl⟩⟩
  go_wp2_with fail
  refine (steelyardref02_Update.calls a1 a2 a3 vc _ HD.out.2).mono ?_
  rintro e w' ⟨rfl, ⟨n6, rfl⟩⟩
  go_wp2_with fail
  refine (Kept_calls g A0 c0 l0 _ (HL.out.drew _) (Kd.C_drewN HR1.out _) HB.out).mono ?_
  rintro e w' ⟨rfl, ⟨n7, rfl⟩⟩
  go_wp2_with fail
  refine (steelyardlaw02_known.calls true _ rfl).mono ?_
  rintro e w2 ⟨rfl, hB2⟩
  have HW2 := Aside0.mk hB2
  clear hB2
  go_wp2
  go_ret
  exact ⟨rfl, below_step (pw_below_drewN HW.out _) HW2.out⟩
end Go.Proofs.Ytcgahbbdgcekeaa.A
