/- AddrBytes: walked. -/
import Derived.Test.YtfnpjfcfgilchaaTupG
import Derived.Test.YtfnpjfcfgilchaaTupW4
import Derived.Test.YtfnpjfcfgilchaaLent
import Derived.Test.YtfnpjfcfgilchaaAddrB
namespace Go.Proofs.Ytfnpjfcfgilchaa.AddrW
open Go.RowKit Go.Proofs.Ytfnpjfcfgilchaa.A Go.Proofs.Ytfnpjfcfgilchaa.Cur Go.Proofs.Ytfnpjfcfgilchaa.Own Go.Proofs.Ytfnpjfcfgilchaa.Segs Go.Proofs.Ytfnpjfcfgilchaa.Mem Go.Proofs.Ytfnpjfcfgilchaa.AddrO Go.Proofs.Ytfnpjfcfgilchaa.AddrEq Go.Proofs.Ytfnpjfcfgilchaa.AddrM Go.Proofs.Ytfnpjfcfgilchaa.Bits Go.Proofs.Ytfnpjfcfgilchaa.Help Go.Proofs.YtfnpjfcfgilchaaW.PrintWords Go.Proofs.YtfnpjfcfgilchaaW.PrintLast Go.Proofs.YtfnpjfcfgilchaaW.PrintMore
set_option linter.unusedVariables false
set_option linter.unusedSimpArgs false
set_option maxRecDepth 10000
theorem GetTuple_any (A : Option Addr) (c : Nat) (xs : List Int) (w : World) (hr : Kd.C (Kd.int .u8) w A xs.length xs) (hc : xs.length ≤ c) (hx : AllB xs) : Calls Try.prog 33 #[.slice A xs.length c] w (GetR xs w) := by
  by_cases h : xs.length = 38
  · exact GetTuple_yes A c xs w hr hc hx h
  · exact GetTuple_no A c xs w h (Kd.C_max hr)
theorem refGetTuple_any (A : Option Addr) (c : Nat) (xs : List Int) (w : World) (hr : Kd.C (Kd.int .u8) w A xs.length xs) (hc : xs.length ≤ c) (hx : AllB xs) : Calls Try.prog 34 #[.slice A xs.length c] w (GetR xs w) := by
  by_cases h : xs.length = 38
  · exact refGetTuple_yes A c xs w hr hc hx h
  · exact refGetTuple_no A c xs w h (Kd.C_max hr)
theorem getT_ok {xs : List Int} (h : AllB xs) : OkT (getT xs).2 := by
  unfold getT
  split
  · exact zT_ok
  · split
    · exact zT_ok
    · split
      · exact zT_ok
      · split
        · exact raw_ok h (by omega)
        · exact zT_ok
theorem split38 {xs : List Int} (hl : xs.length = 38) : xs = xs.getD 0 0 :: xs.getD 1 0 :: (srcB xs ++ (dstB xs ++ [xs.getD 34 0, xs.getD 35 0, xs.getD 36 0, xs.getD 37 0])) := by
  have h0 := take2 (xs := xs) (k := 0) (by omega)
  have h34 := take2 (xs := xs) (k := 34) (by omega)
  have h36 := take2 (xs := xs) (k := 36) (by omega)
  have e1 : xs = xs.take 2 ++ xs.drop 2 := (List.take_append_drop 2 xs).symm
  have e2 : xs.drop 2 = srcB xs ++ xs.drop 18 := by have := (List.take_append_drop 16 (xs.drop 2)).symm; rwa [List.drop_drop] at this
  have e3 : xs.drop 18 = dstB xs ++ xs.drop 34 := by have := (List.take_append_drop 16 (xs.drop 18)).symm; rwa [List.drop_drop] at this
  have e4 : xs.drop 34 = (xs.drop 34).take 2 ++ xs.drop 36 := by have := (List.take_append_drop 2 (xs.drop 34)).symm; rwa [List.drop_drop] at this
  have e5 : xs.drop 36 = (xs.drop 36).take 2 := (List.take_of_length_le (by rw [List.length_drop]; omega)).symm
  rw [List.drop_zero] at h0
  have e : xs = [xs.getD 0 0, xs.getD 1 0] ++ (srcB xs ++ (dstB xs ++ ([xs.getD 34 0, xs.getD 35 0] ++ [xs.getD 36 0, xs.getD 37 0]))) := by
    rw [← h36, ← e5, ← h34, ← e4, ← e3, ← e2, ← h0, ← e1]
  exact e
theorem getT_back {xs : List Int} (hx : AllB xs) (h : (getT xs).1 = 0) : putE (getT xs).2 = 0 ∧ putB (getT xs).2 = xs := by
  unfold getT at h ⊢
  split at h
  · cases h
  · rename_i hl
    have hl : xs.length = 38 := by omega
    rw [if_neg (by omega)]
    split at h
    · cases h
    · rename_i h46
      rw [if_neg h46]
      split at h
      · cases h
      · rename_i hp
        rw [if_neg hp]
        split at h
        · rename_i hr
          rw [if_pos hr]
          refine ⟨by unfold putE; rw [hr]; rfl, ?_⟩
          unfold putB
          rw [if_pos hr]
          have b34 := byte_at hx 34; have b35 := byte_at hx 35; have b36 := byte_at hx 36; have b37 := byte_at hx 37
          have hv : verN (xs.getD 0 0 == 6) = xs.getD 0 0 := by
            by_cases h6 : xs.getD 0 0 = 6
            · rw [h6]; rfl
            · have h4 : xs.getD 0 0 = 4 := by omega
              rw [h4]; rfl
          have hsp : spN xs / 256 = xs.getD 34 0 ∧ spN xs % 256 = xs.getD 35 0 := by unfold spN; omega
          have hdp : dpN xs / 256 = xs.getD 36 0 ∧ dpN xs % 256 = xs.getD 37 0 := by unfold dpN; omega
          show verN (xs.getD 0 0 == 6) :: pN xs :: (srcB xs ++ (dstB xs ++ [spN xs / 256, spN xs % 256, dpN xs / 256, dpN xs % 256])) = xs
          rw [hv, hsp.1, hsp.2, hdp.1, hdp.2]
          exact (split38 hl).symm
        · cases h
theorem getT_put {t : Tu} (ht : OkT t) (h : putE t = 0) : getT (putB t) = (0, t) ∧ (putB t).length = 38 := by
  have hr : rtB t = true := by
    unfold putE at h
    cases hr : rtB t with
    | true => rfl
    | false => rw [hr] at h; simp at h
  have hb : putB t = tupB t := by unfold putB; rw [if_pos hr]
  rw [hb]
  refine ⟨?_, tupB_len ht⟩
  obtain ⟨hv, hsp, hdp, hp⟩ := rtB_facts hr
  have h0 : (tupB t).getD 0 0 = verN t.s.v := rfl
  have h1 : (tupB t).getD 1 0 = t.p := rfl
  have hd2 : (tupB t).drop 2 = t.s.b ++ (t.d.b ++ [t.sp / 256, t.sp % 256, t.dp / 256, t.dp % 256]) := rfl
  have hs : srcB (tupB t) = t.s.b := by unfold srcB; rw [hd2]; exact List.take_left' ht.s.l
  have hd18 : (tupB t).drop 18 = t.d.b ++ [t.sp / 256, t.sp % 256, t.dp / 256, t.dp % 256] := by
    rw [show 18 = 2 + 16 from rfl, ← List.drop_drop, hd2]; exact List.drop_left' ht.s.l
  have hd : dstB (tupB t) = t.d.b := by unfold dstB; rw [hd18]; exact List.take_left' ht.d.l
  have hd34 : (tupB t).drop 34 = [t.sp / 256, t.sp % 256, t.dp / 256, t.dp % 256] := by
    rw [show 34 = 18 + 16 from rfl, ← List.drop_drop, hd18]; exact List.drop_left' ht.d.l
  have hg : ∀ k, (tupB t).getD (34 + k) 0 = [t.sp / 256, t.sp % 256, t.dp / 256, t.dp % 256].getD k 0 := fun k => by
    rw [← hd34, List.getD_eq_getElem?_getD, List.getD_eq_getElem?_getD, List.getElem?_drop]
  have g0 := hg 0
  have g1 := hg 1
  have g2 := hg 2
  have g3 := hg 3
  have e34 : (tupB t).getD 34 0 = t.sp / 256 := g0
  have e35 : (tupB t).getD 35 0 = t.sp % 256 := g1
  have e36 : (tupB t).getD 36 0 = t.dp / 256 := g2
  have e37 : (tupB t).getD 37 0 = t.dp % 256 := g3
  have hver : (verN t.s.v == 6) = t.s.v := by cases t.s.v <;> rfl
  have hraw : rawT (tupB t) = t := by
    unfold rawT pN spN dpN
    rw [h0, h1, hs, hd, e34, e35, e36, e37, hver, show t.sp / 256 * 256 + t.sp % 256 = t.sp by omega, show t.dp / 256 * 256 + t.dp % 256 = t.dp by omega]
    obtain ⟨⟨sv, sb⟩, ⟨dv, db⟩, p, sp, dp⟩ := t
    dsimp only at hv ⊢
    rw [hv]
  have hv46 : verN t.s.v = 4 ∨ verN t.s.v = 6 := by cases t.s.v <;> decide
  unfold getT pN
  rw [h0, h1, hraw, if_neg (by rw [tupB_len ht]; decide), if_neg (by omega), if_neg (by omega), if_pos hr]
set_option maxHeartbeats 16000000 in
theorem addrBytes_any (t : Tu) (A : Option Addr) (c : Nat) (xs : List Int) (w : World) (ht : OkT t) (hr : Kd.C (Kd.int .u8) w A xs.length xs) (hc : xs.length ≤ c) (hb : xs.length ≤ 140737488351232) (hx : AllB xs) :
    Calls Try.prog 8 #[.agg (flat (tseg t)), .slice A xs.length c] w fun e w' => e = .returned (.bool true) ∧ Below w.heap.size w w' := by
  have HM := Aside0.mk (((Mem.nil w).new (.cells (flat (tseg t)) 44)).push (Rd.stays A xs) (Kd.C_alloc hr _))
  simp only [List.nil_append, List.cons_append] at HM
  have H := Aside0.mk (And.intro ht (And.intro hc (And.intro hb hx)))
  have HGO := Aside0.mk (getT_ok hx)
  have HBK := Aside0.mk (fun h => getT_back hx h)
  have HPT := Aside0.mk (fun h => getT_put ht h)
  have HPB : Aside0 (AllB (putB t)) := ⟨by
    unfold putB
    split
    · rename_i h; exact tupB_bytes ht h
    · exact fun _ h => absurd h List.not_mem_nil⟩
  have HPL : Aside0 ((putB t).length ≤ 38) := ⟨by
    unfold putB
    split
    · rw [tupB_len ht]; exact Nat.le_refl _
    · simp⟩
  have HPU := Aside0.mk (fun W => PutTuple_any t W ht)
  have HPR := Aside0.mk (fun W => refPutTuple_any t W ht)
  have HPQ := Aside0.mk (fun W => PutTuple_any (getT xs).2 W HGO.out)
  have HG1 := Aside0.mk (fun A c W h hcc => GetTuple_any A c xs W h hcc hx)
  have HG2 := Aside0.mk (fun A c W h hcc => refGetTuple_any A c xs W h hcc hx)
  have HG3 := Aside0.mk (fun A c W h hcc => GetTuple_any A c (putB t) W h hcc HPB.out)
  unfold PutR at HPU HPR HPQ
  unfold GetR at HG1 HG2 HG3
  clear ht hr hc hb hx
  generalize putB t = ys at *
  generalize putE t = pe at *
  generalize hP2 : putE (getT xs).2 = pe2 at *
  generalize hB2 : putB (getT xs).2 = ys2 at *
  clear hP2 hB2
  generalize (getT xs).1 = er at *
  generalize (getT xs).2 = T at *
  go_enter Try.func8, Try.ntmps8
  go_wp2_with fail
  refine (Lent_calls A c xs _ (HM.out.get 1 rfl) H.out.2.2.1).mono ?_
  rintro e w1 ⟨g, rfl, hg, hL, hB⟩
  replace HM := Aside0.mk ((HM.out.below hB).push (Blk.stays g _) hL)
  simp only [List.nil_append, List.cons_append] at HM
  clear hg hL hB
  go_wp2_with ((with_reducible refine gate_load (t := 44) rfl ?_); (try refine gate_guard (by rfl) ?_); first | (refine Kd.event_run rfl (exec_load rfl rfl (load_tup H.out.1 (HM.out.get 0 rfl))) ?_))
  refine (HPU.out _).mono ?_
  rintro e w2 ⟨v, rfl, hO, hB⟩
  obtain ⟨va, vc, rfl, hvc, hrd⟩ := hO.reads hO.len63
  replace HM := Aside0.mk ((HM.out.below hB).push (Rd.stays va ys) hrd)
  simp only [List.nil_append, List.cons_append] at HM
  have HVC := Aside0.mk hvc
  clear hO hB hvc hrd HPU
  go_wp2_with ((with_reducible refine gate_load (t := 44) rfl ?_); (try refine gate_guard (by rfl) ?_); first | (refine Kd.event_run rfl (exec_load rfl rfl (load_tup H.out.1 (HM.out.get 0 rfl))) ?_))
  refine (HPR.out _).mono ?_
  rintro e w3 ⟨v, rfl, hO, hB⟩
  obtain ⟨vb, vd, rfl, -, hrd⟩ := hO.reads hO.len63
  replace HM := Aside0.mk ((HM.out.below hB).push (Rd.stays vb ys) hrd)
  simp only [List.nil_append, List.cons_append] at HM
  clear hO hB hrd HPR
  have HLR : Aside0 (∀ W, Blk g (.cells (nums .u8 (xs ++ tail8)).toArray 5 (0, 0)) W → Kd.C (Kd.int .u8) W (some ⟨g, 0, none⟩) xs.length xs) := ⟨fun W h => LentAt.reads h (by have := H.out.2.2.1; omega)⟩
  go_wp2_with fail
  refine (HG1.out (some ⟨g, 0, none⟩) (xs.length + 8) _ (HLR.out _ (HM.out.get 2 rfl)) (by omega)).mono ?_
  rintro e w4 ⟨rfl, hB⟩
  have HST := Aside0.mk (tup_new w4 rfl HGO.out zT_ok)
  replace HM := Aside0.mk ((HM.out.below hB).new (.cells (flat (tseg T)) 44))
  simp only [List.nil_append, List.cons_append] at HM
  clear hB HG1
  go_wp2_with ((with_reducible refine gate_store (t := 44) rfl ?_); refine event_skip rfl (exec_store rfl rfl rfl HST.out) ?_)
  refine (HG2.out A c _ (HM.out.get 1 rfl) H.out.2.1).mono ?_
  rintro e w5 ⟨rfl, hB⟩
  have HST := Aside0.mk (tup_new w5 rfl HGO.out zT_ok)
  replace HM := Aside0.mk ((HM.out.below hB).new (.cells (flat (tseg T)) 44))
  simp only [List.nil_append, List.cons_append] at HM
  clear hB HG2
  have HEQ : Aside0 (∀ W : World, (Op.equalIn 10000 44 (.agg (flat (tseg T))) (.agg (flat (tseg T)))).run Try.prog W = .ok true W) := ⟨fun W => by rw [eq_tup HGO.out HGO.out W]; simp⟩
  go_upto_region 6 with ((with_reducible refine gate_store (t := 44) rfl ?_); refine event_skip rfl (exec_store rfl rfl rfl HST.out) ?_)
  change Code.wp _ _ _ _ (w5.alloc (.cells (flat (tseg T)) 44))
  generalize w5.alloc (.cells (flat (tseg T)) 44) = W5 at *
  have k0 := Kd.C_string (P := Try.prog) Try.underlying22 Try.underlying5 Try.underlying9 (c := vc) (HM.out.get 3 rfl)
  have k1 := Kd.C_string (P := Try.prog) Try.underlying22 Try.underlying5 Try.underlying9 (c := vd) (HM.out.get 4 rfl)
  generalize strOfNums ys = ystr at *
  clear HST
  go_wp2_with (first | ((with_reducible refine gate_load (t := 44) rfl ?_); (try refine gate_guard (by rfl) ?_); first | (refine Kd.event_run rfl (exec_load rfl rfl (load_tup HGO.out (HM.out.get 5 rfl))) ?_) | (refine Kd.event_run rfl (exec_load rfl rfl (load_tup HGO.out (HM.out.get 6 rfl))) ?_)) | ((with_reducible refine gate_bin (b := .neq) (t := 44) rfl ?_); (try refine gate_guard (by rfl) ?_); refine Kd.event_run rfl (exec_neq Try.eqGuardType44 rfl rfl rfl (HEQ.out _)) ?_))
  refine (Kept_calls g A c xs _ (HM.out.get 2 rfl) (HM.out.get 1 rfl) H.out.2.2.1).mono ?_
  rintro e w6 ⟨rfl, hD⟩
  replace HM := Aside0.mk (HM.out.below hD.below)
  clear hD k0 k1
  by_cases he : er = 0
  · subst he
    obtain ⟨hp2, hb2⟩ := HBK.out rfl
    subst hp2
    rw [hb2] at HPQ
    clear hb2 HBK
    go_wp2_with ((with_reducible refine gate_load (t := 44) rfl ?_); (try refine gate_guard (by rfl) ?_); first | (refine Kd.event_run rfl (exec_load rfl rfl (load_tup HGO.out (HM.out.get 6 rfl))) ?_))
    refine (HPQ.out _).mono ?_
    rintro e w7 ⟨v, rfl, hO, hB⟩
    obtain ⟨ve, vf, rfl, -, hrd⟩ := hO.reads hO.len63
    replace HM := Aside0.mk ((HM.out.below hB).push (Rd.stays ve xs) hrd)
    simp only [List.nil_append, List.cons_append] at HM
    have k0 := Kd.C_string (P := Try.prog) Try.underlying22 Try.underlying5 Try.underlying9 (c := vf) (HM.out.get 7 rfl)
    have k1 := Kd.C_string (P := Try.prog) Try.underlying22 Try.underlying5 Try.underlying9 (c := c) (HM.out.get 1 rfl)
    generalize strOfNums xs = xstr at *
    clear hO hB hrd HPQ
    go_upto_region 12 with fail
    clear k0 k1
    by_cases hpe : pe = 0
    case neg =>
      have qpe : (pe != 0) = true := by simpa using hpe
      clear hpe HPT
      go_wp2_with fail
      refine (known_any _).mono ?_
      rintro e w1 ⟨rfl, hB⟩
      replace HM := Aside0.mk (HM.out.below hB)
      clear hB
      go_wp2_with fail
      go_ret
      exact ⟨rfl, HM.out.b⟩
    subst hpe
    obtain ⟨hgt, hyl⟩ := HPT.out rfl
    have HG3' := HG3.out va vc
    rw [hgt] at HG3'
    dsimp only at HG3'
    have HG4 := Aside0.mk HG3'
    clear HG3' HG3 HPT
    have hyl2 : ((ys.length : Nat) : Int) = 38 := by rw [hyl]; rfl
    have HVC2 := Aside0.mk (show ys.length ≤ vc from HVC.out)
    have HYL := Aside0.mk hyl
    clear hgt hyl
    go_wp2_with fail
    refine (HG4.out _ (HM.out.get 3 rfl) HVC2.out).mono ?_
    rintro e w8 ⟨rfl, hB⟩
    have HST := Aside0.mk (tup_new w8 rfl H.out.1 zT_ok)
    replace HM := Aside0.mk ((HM.out.below hB).new (.cells (flat (tseg t)) 44))
    simp only [List.nil_append, List.cons_append] at HM
    clear hB HG4
    have HEQ2 : Aside0 (∀ W : World, (Op.equalIn 10000 44 (.agg (flat (tseg t))) (.agg (flat (tseg t)))).run Try.prog W = .ok true W) := ⟨fun W => by rw [eq_tup H.out.1 H.out.1 W]; simp⟩
    go_upto_region 15 with ((with_reducible refine gate_store (t := 44) rfl ?_); refine event_skip rfl (exec_store rfl rfl rfl HST.out) ?_)
    change Code.wp _ _ _ _ (w8.alloc (.cells (flat (tseg t)) 44))
    generalize w8.alloc (.cells (flat (tseg t)) 44) = W8 at *
    clear HST
    go_wp2_with (first | ((with_reducible refine gate_load (t := 44) rfl ?_); (try refine gate_guard (by rfl) ?_); first | (refine Kd.event_run rfl (exec_load rfl rfl (load_tup H.out.1 (HM.out.get 8 rfl))) ?_) | (refine Kd.event_run rfl (exec_load rfl rfl (load_tup H.out.1 (HM.out.get 0 rfl))) ?_)) | ((with_reducible refine gate_bin (b := .eql) (t := 44) rfl ?_); (try refine gate_guard (by rfl) ?_); refine Kd.event_run rfl (exec_eql Try.eqGuardType44 rfl rfl rfl (HEQ2.out _)) ?_))
    refine (known_any _).mono ?_
    rintro e w1 ⟨rfl, hB⟩
    replace HM := Aside0.mk (HM.out.below hB)
    clear hB
    go_wp2_with fail
    go_ret
    exact ⟨rfl, HM.out.b⟩
  · have qe : (er == 0) = false := by simpa using he
    clear he HBK HPQ
    go_upto_region 12 with fail
    by_cases hpe : pe = 0
    case neg =>
      have qpe : (pe != 0) = true := by simpa using hpe
      clear hpe HPT
      go_wp2_with fail
      refine (known_any _).mono ?_
      rintro e w1 ⟨rfl, hB⟩
      replace HM := Aside0.mk (HM.out.below hB)
      clear hB
      go_wp2_with fail
      go_ret
      exact ⟨rfl, HM.out.b⟩
    subst hpe
    obtain ⟨hgt, hyl⟩ := HPT.out rfl
    have HG3' := HG3.out va vc
    rw [hgt] at HG3'
    dsimp only at HG3'
    have HG4 := Aside0.mk HG3'
    clear HG3' HG3 HPT
    have hyl2 : ((ys.length : Nat) : Int) = 38 := by rw [hyl]; rfl
    have HVC2 := Aside0.mk (show ys.length ≤ vc from HVC.out)
    have HYL := Aside0.mk hyl
    clear hgt hyl
    go_wp2_with fail
    refine (HG4.out _ (HM.out.get 3 rfl) HVC2.out).mono ?_
    rintro e w8 ⟨rfl, hB⟩
    have HST := Aside0.mk (tup_new w8 rfl H.out.1 zT_ok)
    replace HM := Aside0.mk ((HM.out.below hB).new (.cells (flat (tseg t)) 44))
    simp only [List.nil_append, List.cons_append] at HM
    clear hB HG4
    have HEQ2 : Aside0 (∀ W : World, (Op.equalIn 10000 44 (.agg (flat (tseg t))) (.agg (flat (tseg t)))).run Try.prog W = .ok true W) := ⟨fun W => by rw [eq_tup H.out.1 H.out.1 W]; simp⟩
    go_upto_region 15 with ((with_reducible refine gate_store (t := 44) rfl ?_); refine event_skip rfl (exec_store rfl rfl rfl HST.out) ?_)
    change Code.wp _ _ _ _ (w8.alloc (.cells (flat (tseg t)) 44))
    generalize w8.alloc (.cells (flat (tseg t)) 44) = W8 at *
    clear HST
    go_wp2_with (first | ((with_reducible refine gate_load (t := 44) rfl ?_); (try refine gate_guard (by rfl) ?_); first | (refine Kd.event_run rfl (exec_load rfl rfl (load_tup H.out.1 (HM.out.get 7 rfl))) ?_) | (refine Kd.event_run rfl (exec_load rfl rfl (load_tup H.out.1 (HM.out.get 0 rfl))) ?_)) | ((with_reducible refine gate_bin (b := .eql) (t := 44) rfl ?_); (try refine gate_guard (by rfl) ?_); refine Kd.event_run rfl (exec_eql Try.eqGuardType44 rfl rfl rfl (HEQ2.out _)) ?_))
    refine (known_any _).mono ?_
    rintro e w1 ⟨rfl, hB⟩
    replace HM := Aside0.mk (HM.out.below hB)
    clear hB
    go_wp2_with fail
    go_ret
    exact ⟨rfl, HM.out.b⟩
end Go.Proofs.Ytfnpjfcfgilchaa.AddrW
namespace Go.Proofs.Ytfnpjfcfgilchaa.AddrW
open Go.RowKit Go.Proofs.Ytfnpjfcfgilchaa.Segs Go.Proofs.Ytfnpjfcfgilchaa.AddrM Go.Proofs.Ytfnpjfcfgilchaa.Help Go.Proofs.YtfnpjfcfgilchaaW.PrintWords
theorem AddrBytes_w (v1 : Bool) (b1 : List Int) (v2 : Bool) (b2 : List Int) (p1 s1 d1 : Int) (A : Option Addr) (c : Nat) (xs : List Int) (w : World) (h1 : OkA b1) (h2 : OkA b2) (h3 : In64 p1) (h4 : In64 s1) (h5 : In64 d1) (hr : Kd.C (Kd.int .u8) w A xs.length xs) (hc : xs.length ≤ c) (hb : xs.length ≤ 140737488351232) (hx : AllB xs) :
    Calls Try.prog 8 #[.agg (flat (tseg ⟨⟨v1, b1⟩, ⟨v2, b2⟩, p1, s1, d1⟩)), .slice A xs.length c] w fun e w' => e = .returned (.bool true) ∧ Below w.heap.size w w' :=
  addrBytes_any _ A c xs w ⟨h1, h2, h3, h4, h5⟩ hr hc hb hx
end Go.Proofs.Ytfnpjfcfgilchaa.AddrW
