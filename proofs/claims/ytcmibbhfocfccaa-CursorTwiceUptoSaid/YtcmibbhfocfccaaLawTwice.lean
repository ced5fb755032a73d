/- CursorTwice. -/
import Derived.Test.YtcmibbhfocfccaaCurQ
import Derived.Test.YtcmibbhfocfccaaCurL6
import Derived.Test.YtcmibbhfocfccaaCurW12
namespace Go.Proofs.Ytcmibbhfocfccaa.Cur
open Go.RowKit Go.Proofs.Ytcmibbhfocfccaa.A Go.Proofs.Ytcmibbhfocfccaa.Segs Go.Proofs.Ytcmibbhfocfccaa.Own Go.Proofs.Ytcmibbhfocfccaa.CurP Go.Proofs.Ytcmibbhfocfccaa.Mem Go.Proofs.Ytcmibbhfocfccaa.Bits Go.Proofs.Ytcmibbhfocfccaa.Help Go.Proofs.YtcmibbhfocfccaaW.PrintWords Go.Proofs.YtcmibbhfocfccaaW.PrintLast Go.Proofs.YtcmibbhfocfccaaW.PrintMore
set_option linter.unusedVariables false
set_option linter.unusedSimpArgs false
theorem rows_any {w W : World} {α : Type} {d : Kd α} {A : Option Addr} {l : List α} (h : d.C w A l.length l) (hB : Below w.heap.size w W) : ReadsRow (d.K w) d.sz W A l.length l := ReadsRow.imp_ h hB (fun _ _ hk => hk)
theorem fixed_reads {w w' : World} {α : Type} {d : Kd α} {e base : Nat} {v : Value} {l : List α} (h : Kd.R (Kd.fixed d w) e w' base (fun _ => True) v l) (hB : Below w.heap.size w w') :
    ∃ A c, v = .slice A l.length c ∧ l.length ≤ c ∧ d.C w' A l.length l := by
  obtain ⟨A, c, h1, h2, h3⟩ := Kd.R_reads h
  exact ⟨A, c, h1, h2, Kd.C_imp (d := Kd.fixed d w) rfl (fun w1 x cs hk => hk) h3 |> fun h => h.imp_ (Below.refl _ _) (fun x cs hk => d.K_below hB hk)⟩
theorem info_rop : (Try.prog.info? 44).map (fun i => (i.zero, i.size, i.bytes)) = some (some (.agg #[.int .i64 0, .int .i64 0]), dO.sz, 16) := by kernel_rfl
theorem str_app (xs ys : List Int) : strOfNums (xs ++ ys) = strOfNums xs ++ strOfNums ys := by
  unfold strOfNums
  apply ByteArray.ext
  simp
theorem str_size (xs : List Int) : (strOfNums xs).size = xs.length := by
  unfold strOfNums
  simp [ByteArray.size]
set_option maxHeartbeats 16000000 in
theorem cursorTwice_any (A : Option Addr) (c : Nat) (vs : List (Int × List Int)) (A2 : Option Addr) (c2 : Nat) (l : List (Int × Int)) (A3 : Option Addr) (c3 : Nat) (ws : List (Int × List Int)) (A4 : Option Addr) (c4 : Nat) (m : List (Int × Int)) (w : World)
    (hr : dV.C w A vs.length vs) (hc : vs.length ≤ c) (ho : dO.C w A2 l.length l) (hlc : l.length ≤ c2) (hr3 : dV.C w A3 ws.length ws) (hc3 : ws.length ≤ c3) (ho4 : dO.C w A4 m.length m) (hlc4 : m.length ≤ c4)
    (hvs : vs.length ≤ 1048576) (hvb : ∀ v ∈ vs, 0 ≤ v.1 ∧ v.1 ≤ 18446744073709551615 ∧ v.2.length ≤ 1048576 ∧ AllB v.2) (hsz : l.length ≤ 1048576) (hlb : ∀ o ∈ l, -9223372036854775808 ≤ o.2 ∧ o.2 ≤ 9223372036854775807)
    (hws : ws.length ≤ 1048576) (hwb : ∀ v ∈ ws, 0 ≤ v.1 ∧ v.1 ≤ 18446744073709551615 ∧ v.2.length ≤ 1048576 ∧ AllB v.2) (hsm : m.length ≤ 1048576) (hmb : ∀ o ∈ m, -9223372036854775808 ≤ o.2 ∧ o.2 ≤ 9223372036854775807) :
    Calls Try.prog 6 #[.slice A vs.length c, .slice A2 l.length c2, .slice A3 ws.length c3, .slice A4 m.length c4] w fun e w' => e = .returned (.bool true) ∧ Below w.heap.size w w' := by
  have H := Aside0.mk (And.intro hvs (And.intro hvb (And.intro hsz hlb)))
  have H' := Aside0.mk (And.intro hws (And.intro hwb (And.intro hsm hmb)))
  have HV := Aside0.mk (And.intro hr hc)
  have HO := Aside0.mk (And.intro ho hlc)
  have HV' := Aside0.mk (And.intro hr3 hc3)
  have HO' := Aside0.mk (And.intro ho4 hlc4)
  have hll : (l.length : Int) ≤ 1048576 := by omega
  have hml : (m.length : Int) ≤ 1048576 := by omega
  clear hvs hvb hsz hlb hr hc ho hlc hws hwb hsm hmb hr3 hc3 ho4 hlc4
  go_enter Try.func6, Try.ntmps6
  go_wp2_with fail
  have HB : Aside0 (Below w.heap.size w w) := ⟨Below.refl _ _⟩
  refine (vals_any w A c vs (Kd.C_below HV.out.1 HB.out) HV.out.2 (by have := H.out.1; omega) (fun v hv => by have := (H.out.2.1 v hv).2.2.1; omega)).mono ?_
  rintro e w1a ⟨v, rfl, hS, hB⟩
  obtain ⟨va, vc, rfl, hvc, hrd⟩ := Kd.S_reads hS
  replace HB := Aside0.mk (below_step HB.out hB)
  have HV1 := Aside0.mk (And.intro hrd hvc)
  clear hS hB hrd hvc
  go_wp2_with fail
  refine (ops_any _ A2 c2 l (Kd.C_below HO.out.1 HB.out) HO.out.2 (by have := H.out.2.2.1; omega)).mono ?_
  rintro e w2a ⟨vo, rfl, hS, hB⟩
  obtain ⟨oa, oc, rfl, hoc, hrd⟩ := Kd.S_reads hS
  replace HB := Aside0.mk (below_step HB.out hB)
  replace HV1 := Aside0.mk (And.intro (Kd.C_below HV1.out.1 hB) HV1.out.2)
  have HO1 := Aside0.mk (And.intro hrd hoc)
  clear hS hB hrd hoc
  go_wp2_with fail
  refine (Lay_any w2a va oa vc oc vs l HV1.out.1 HV1.out.2 HO1.out.1 HO1.out.2 H.out.2.2.2 (fun v hv => ⟨(H.out.2.1 v hv).1, (H.out.2.1 v hv).2.1⟩)).mono ?_
  rintro e w3a ⟨v, rfl, hO, hB⟩
  obtain ⟨ba, bc, rfl, hbc, hbr⟩ := hO.reads hO.len63
  replace HB := Aside0.mk (below_step HB.out hB)
  have HXa := Aside0.mk hbr
  have hxla : ((layA vs l).2.length : Int) ≤ 65535 := by have := layA_len vs l; omega
  clear hO hB hbr hbc HV1 HO1
  go_wp2_with fail
  refine (vals_any _ A3 c3 ws (Kd.C_below HV'.out.1 HB.out) HV'.out.2 (by have := H'.out.1; omega) (fun v hv => by have := (H'.out.2.1 v hv).2.2.1; omega)).mono ?_
  rintro e w1b ⟨v, rfl, hS, hB⟩
  obtain ⟨va, vc, rfl, hvc, hrd⟩ := Kd.S_reads hS
  replace HB := Aside0.mk (below_step HB.out hB)
  replace HXa := Aside0.mk (Kd.C_below HXa.out hB)
  have HV1 := Aside0.mk (And.intro hrd hvc)
  clear hS hB hrd hvc
  go_wp2_with fail
  refine (ops_any _ A4 c4 m (Kd.C_below HO'.out.1 HB.out) HO'.out.2 (by have := H'.out.2.2.1; omega)).mono ?_
  rintro e w2b ⟨vo, rfl, hS, hB⟩
  obtain ⟨oa, oc, rfl, hoc, hrd⟩ := Kd.S_reads hS
  replace HB := Aside0.mk (below_step HB.out hB)
  replace HXa := Aside0.mk (Kd.C_below HXa.out hB)
  replace HV1 := Aside0.mk (And.intro (Kd.C_below HV1.out.1 hB) HV1.out.2)
  have HO1 := Aside0.mk (And.intro hrd hoc)
  clear hS hB hrd hoc
  go_wp2_with fail
  refine (Lay_any w2b va oa vc oc ws m HV1.out.1 HV1.out.2 HO1.out.1 HO1.out.2 H'.out.2.2.2 (fun v hv => ⟨(H'.out.2.1 v hv).1, (H'.out.2.1 v hv).2.1⟩)).mono ?_
  rintro e w3b ⟨v, rfl, hO, hB⟩
  obtain ⟨bb, bd, rfl, hbc, hbr⟩ := hO.reads hO.len63
  replace HB := Aside0.mk (below_step HB.out hB)
  replace HXa := Aside0.mk (Kd.C_below HXa.out hB)
  have HXb := Aside0.mk hbr
  have hxlb : ((layA ws m).2.length : Int) ≤ 65535 := by have := layA_len ws m; omega
  clear hO hB hbr hbc HV1 HO1
  have HT := Aside0.mk (layA_twice (vs := vs) (os := l) (ws := ws) (ps := m))
  have HLV : Aside0 ((layA vs l).1 = 0 → l.length ≤ 4096 ∧ vs.length = l.length) := ⟨fun h => ⟨(layA_ok h).1, (layA_ok h).2.1⟩⟩
  have HLW : Aside0 ((layA ws m).1 = 0 → m.length ≤ 4096 ∧ ws.length = m.length) := ⟨fun h => ⟨(layA_ok h).1, (layA_ok h).2.1⟩⟩
  generalize (layA vs l).1 = er at *
  generalize (layA vs l).2 = xs at *
  generalize (layA ws m).1 = fr at *
  generalize (layA ws m).2 = ys at *
  by_cases he : er = 0
  case neg =>
    have q : (er != 0) = true := by simpa using he
    clear he HT
    go_wp2_with fail
    refine (known_any _).mono ?_
    rintro e w9 ⟨rfl, hB⟩
    replace HB := Aside0.mk (below_step HB.out hB)
    clear hB
    go_wp2_with fail
    go_ret
    exact ⟨rfl, HB.out⟩
  subst he
  by_cases hf : fr = 0
  case neg =>
    have q : (fr != 0) = true := by simpa using hf
    clear hf HT
    go_wp2_with fail
    refine (known_any _).mono ?_
    rintro e w9 ⟨rfl, hB⟩
    replace HB := Aside0.mk (below_step HB.out hB)
    clear hB
    go_wp2_with fail
    go_ret
    exact ⟨rfl, HB.out⟩
  subst hf
  by_cases h1 : 2000 < (l.length : Int)
  case pos =>
    clear HT
    go_wp2_with fail
    refine (known_any _).mono ?_
    rintro e w9 ⟨rfl, hB⟩
    replace HB := Aside0.mk (below_step HB.out hB)
    clear hB
    go_wp2_with fail
    go_ret
    exact ⟨rfl, HB.out⟩
  by_cases h2 : 2000 < (m.length : Int)
  case pos =>
    have h1' : decide (2000 < (l.length : Int)) = false := by simpa using h1
    clear HT
    go_wp2_with fail
    refine (known_any _).mono ?_
    rintro e w9 ⟨rfl, hB⟩
    replace HB := Aside0.mk (below_step HB.out hB)
    clear hB
    go_wp2_with fail
    go_ret
    exact ⟨rfl, HB.out⟩
  by_cases h3 : 30000 < (xs.length : Int)
  case pos =>
    have h1' : decide (2000 < (l.length : Int)) = false := by simpa using h1
    have h2' : decide (2000 < (m.length : Int)) = false := by simpa using h2
    clear HT
    go_wp2_with fail
    refine (known_any _).mono ?_
    rintro e w9 ⟨rfl, hB⟩
    replace HB := Aside0.mk (below_step HB.out hB)
    clear hB
    go_wp2_with fail
    go_ret
    exact ⟨rfl, HB.out⟩
  by_cases h4 : 30000 < (ys.length : Int)
  case pos =>
    have h1' : decide (2000 < (l.length : Int)) = false := by simpa using h1
    have h2' : decide (2000 < (m.length : Int)) = false := by simpa using h2
    have h3' : decide (30000 < (xs.length : Int)) = false := by simpa using h3
    clear HT
    go_wp2_with fail
    refine (known_any _).mono ?_
    rintro e w9 ⟨rfl, hB⟩
    replace HB := Aside0.mk (below_step HB.out hB)
    clear hB
    go_wp2_with fail
    go_ret
    exact ⟨rfl, HB.out⟩
  have HT2 := Aside0.mk (HT.out rfl rfl (by omega) (by omega))
  have h1' : decide (2000 < (l.length : Int)) = false := by simpa using h1
  have h2' : decide (2000 < (m.length : Int)) = false := by simpa using h2
  have h3' : decide (30000 < (xs.length : Int)) = false := by simpa using h3
  have h4' : decide (30000 < (ys.length : Int)) = false := by simpa using h4
  have hlv := Aside0.mk (HLV.out rfl)
  have hlw := Aside0.mk (HLW.out rfl)
  clear HT h1 h2 h3 h4 HLV HLW
  have HL4 : Aside0 (([] : List (Int × List Int)).length + vs.length ≤ 4000000 ∧ vs.length + ws.length ≤ 4000000 ∧ l.length + m.length ≤ 4000000) := ⟨by have := H.out.1; have := H'.out.1; have := H.out.2.2.1; have := H'.out.2.2.1; simp; omega⟩
  have HL5 : Aside0 ((([] : List (Int × List Int)).length + vs.length) * 32 ≤ 140737488355328) := ⟨by have := HL4.out.1; omega⟩
  go_upto_region 7 with (at_builtin; refine Kd.R_append_rows (Kd.fixed dV w) (Rr := dV.K w) (w0 := w3b) w3b.heap.size rfl (.tmp 60) (.tmp 61) 31 66 (.agg #[.int .u64 0, .slice none 0 0]) 32 rfl Try.underlying31 info_rval rfl (show 0 < 2 by decide) (by decide) (.slice none 0 0) [] vs A vs.length c (fun _ => True) (fun _ => False) rfl rfl (Kd.R_nil _ _ _ _ _) (rows_any HV.out.1 HB.out) (fun x cs h => h) (fun _ h => h.elim) (fun _ _ => trivial) (Below.refl _ _) (Nat.le_refl _) HL5.out ?_; intro v5 w5 hR5 hB5 hg5 hat5)
  rw [List.nil_append] at hR5
  have HR5 := Aside0.mk hR5
  have HB5 := Aside0.mk hB5
  have HW5 : Aside0 (Below w.heap.size w w5) := ⟨below_then HB.out HB.out.size hB5⟩
  have HL6 : Aside0 ((vs.length + ws.length) * 32 ≤ 140737488355328) := ⟨by have := HL4.out.2.1; omega⟩
  clear hR5 hB5 hg5 hat5
  go_upto_region 8 with (at_builtin; refine Kd.R_append_rows (Kd.fixed dV w) (Rr := dV.K w) (w0 := w3b) w3b.heap.size rfl (.tmp 63) (.tmp 64) 31 66 (.agg #[.int .u64 0, .slice none 0 0]) 32 rfl Try.underlying31 info_rval rfl (show 0 < 2 by decide) (by decide) v5 vs ws A3 ws.length c3 (fun _ => True) (fun _ => False) rfl rfl HR5.out (rows_any HV'.out.1 HW5.out) (fun x cs h => h) (fun _ h => h.elim) (fun _ _ => trivial) HB5.out HB5.out.size HL6.out ?_; intro v6 w6 hR6 hB6 hg6 hat6)
  have HR6 := Aside0.mk hR6
  have HB6 := Aside0.mk hB6
  have HW6 : Aside0 (Below w.heap.size w w6) := ⟨below_then HB.out HB.out.size hB6⟩
  have HL7 : Aside0 ((([] : List (Int × Int)).length + l.length) * 16 ≤ 140737488355328) := ⟨by have := HL4.out.2.2; simp; omega⟩
  clear hR6 hB6 hg6 hat6 HR5 HB5 HW5
  go_upto_region 10 with (at_builtin; refine Kd.R_append_rows (Kd.fixed dO w) (Rr := dO.K w) (w0 := w6) w6.heap.size rfl (.tmp 66) (.tmp 67) 23 44 (.agg #[.int .i64 0, .int .i64 0]) 16 rfl Try.underlying23 info_rop rfl (show 0 < 2 by decide) (by decide) (.slice none 0 0) [] l A2 l.length c2 (fun _ => True) (fun _ => False) rfl rfl (Kd.R_nil _ _ _ _ _) (rows_any HO.out.1 HW6.out) (fun x cs h => h) (fun _ h => h.elim) (fun _ _ => trivial) (Below.refl _ _) (Nat.le_refl _) HL7.out ?_; intro v7 w7 hR7 hB7 hg7 hat7)
  rw [List.nil_append] at hR7
  have HR7 := Aside0.mk hR7
  have HB7 := Aside0.mk hB7
  have HW7 : Aside0 (Below w.heap.size w w7) := ⟨below_step HW6.out hB7⟩
  have HL8 : Aside0 ((l.length + m.length) * 16 ≤ 140737488355328) := ⟨by have := HL4.out.2.2; omega⟩
  clear hR7 hB7 hg7 hat7
  go_upto_region 11 with (at_builtin; refine Kd.R_append_rows (Kd.fixed dO w) (Rr := dO.K w) (w0 := w6) w6.heap.size rfl (.tmp 69) (.tmp 70) 23 44 (.agg #[.int .i64 0, .int .i64 0]) 16 rfl Try.underlying23 info_rop rfl (show 0 < 2 by decide) (by decide) v7 l m A4 m.length c4 (fun _ => True) (fun _ => False) rfl rfl HR7.out (rows_any HO'.out.1 HW7.out) (fun x cs h => h) (fun _ h => h.elim) (fun _ _ => trivial) HB7.out HB7.out.size HL8.out ?_; intro v8 w8 hR8 hB8 hg8 hat8)
  have HW8 := Aside0.mk (below_step HW6.out hB8)
  obtain ⟨A8, c8, rfl, hc8, hr8⟩ := fixed_reads hR8 HW8.out
  obtain ⟨A6, c6, rfl, hc6, hr6⟩ := fixed_reads HR6.out HW6.out
  have HV8 := Aside0.mk (And.intro (Kd.C_below hr6 hB8) hc6)
  have HO8 := Aside0.mk (And.intro hr8 hc8)
  have hB := below_then HB6.out HB6.out.size hB8
  replace HXa := Aside0.mk (Kd.C_below HXa.out hB)
  replace HXb := Aside0.mk (Kd.C_below HXb.out hB)
  have HG : Aside0 ((vs ++ ws).length ≤ 4000000 ∧ (l ++ m).length ≤ 4000000 ∧ (∀ v ∈ vs ++ ws, 0 ≤ v.1 ∧ v.1 ≤ 18446744073709551615 ∧ v.2.length ≤ 1048576 ∧ AllB v.2) ∧ ∀ o ∈ l ++ m, -9223372036854775808 ≤ o.2 ∧ o.2 ≤ 9223372036854775807) :=
    ⟨by rw [List.length_append]; exact HL4.out.2.1, by rw [List.length_append]; exact HL4.out.2.2, fun v hv => (List.mem_append.1 hv).elim (H.out.2.1 v) (H'.out.2.1 v), fun o ho => (List.mem_append.1 ho).elim (H.out.2.2.2 o) (H'.out.2.2.2 o)⟩
  have hgl : ((l ++ m).length : Int) ≤ 4000000 := by have := HG.out.2.1; omega
  clear hR8 hB8 hg8 hat8 HR6 HB6 HR7 HB7 HW7 HW6 hr6 hr8 hc6 hc8 HB hB HV HO HV' HO'
  generalize vs ++ ws = us at *
  generalize l ++ m = os at *
  go_wp2_with fail
  refine (vals_any w8 A6 c6 us HV8.out.1 HV8.out.2 (by have := HG.out.1; omega) (fun v hv => by have := (HG.out.2.2.1 v hv).2.2.1; omega)).mono ?_
  rintro e w9 ⟨v, rfl, hS, hB⟩
  obtain ⟨va9, vc9, rfl, hvc, hrd⟩ := Kd.S_reads hS
  replace HW8 := Aside0.mk (below_step HW8.out hB)
  replace HXa := Aside0.mk (Kd.C_below HXa.out hB)
  replace HXb := Aside0.mk (Kd.C_below HXb.out hB)
  replace HO8 := Aside0.mk (And.intro (Kd.C_below HO8.out.1 hB) HO8.out.2)
  have HV1 := Aside0.mk (And.intro hrd hvc)
  clear hS hB hrd hvc
  go_wp2_with fail
  refine (ops_any _ A8 c8 os HO8.out.1 HO8.out.2 (by have := HG.out.2.1; omega)).mono ?_
  rintro e w10 ⟨vo, rfl, hS, hB⟩
  obtain ⟨oa9, oc9, rfl, hoc, hrd⟩ := Kd.S_reads hS
  replace HW8 := Aside0.mk (below_step HW8.out hB)
  replace HXa := Aside0.mk (Kd.C_below HXa.out hB)
  replace HXb := Aside0.mk (Kd.C_below HXb.out hB)
  replace HV1 := Aside0.mk (And.intro (Kd.C_below HV1.out.1 hB) HV1.out.2)
  have HO1 := Aside0.mk (And.intro hrd hoc)
  clear hS hB hrd hoc
  go_wp2_with fail
  refine (Lay_any w10 va9 oa9 vc9 oc9 us os HV1.out.1 HV1.out.2 HO1.out.1 HO1.out.2 HG.out.2.2.2 (fun v hv => ⟨(HG.out.2.2.1 v hv).1, (HG.out.2.2.1 v hv).2.1⟩)).mono ?_
  rintro e w11 ⟨v, he, hO, hB⟩
  rw [HT2.out] at he hO
  subst he
  dsimp only at hO
  obtain ⟨ba9, bc9, rfl, hbc, hbr⟩ := hO.reads hO.len63
  replace HW8 := Aside0.mk (below_step HW8.out hB)
  have k0 := Kd.C_string (P := Try.prog) Try.underlying22 Try.underlying5 Try.underlying9 (c := bc9) hbr
  have k1 := Kd.C_string (P := Try.prog) Try.underlying22 Try.underlying5 Try.underlying9 (c := bc) (Kd.C_below HXa.out hB)
  have k2 := Kd.C_string (P := Try.prog) Try.underlying22 Try.underlying5 Try.underlying9 (c := bd) (Kd.C_below HXb.out hB)
  rw [str_app] at k0
  clear hO hB hbr hbc HV1 HO1 HT2
  generalize (xs ++ ys).length = n9 at *
  have hz12 : (strOfNums xs).size + (strOfNums ys).size ≤ 9223372036854775807 := by rw [str_size, str_size]; omega
  generalize strOfNums xs = s1 at *
  generalize strOfNums ys = s2 at *
  go_wp2_with fail
  refine (known_any _).mono ?_
  rintro e w12 ⟨rfl, hB⟩
  replace HW8 := Aside0.mk (below_step HW8.out hB)
  clear hB
  go_wp2_with fail
  go_ret
  exact ⟨rfl, HW8.out⟩
end Go.Proofs.Ytcmibbhfocfccaa.Cur
