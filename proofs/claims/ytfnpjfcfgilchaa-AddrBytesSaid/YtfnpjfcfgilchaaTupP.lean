/- A tuple's bytes, plainly. -/
import Derived.Test.YtfnpjfcfgilchaaTupW1
import Derived.Test.YtfnpjfcfgilchaaCurQ
namespace Go.Proofs.Ytfnpjfcfgilchaa.AddrW
open Go.RowKit Go.Proofs.Ytfnpjfcfgilchaa.AddrM Go.Proofs.Ytfnpjfcfgilchaa.Bits
set_option linter.unusedVariables false
set_option linter.unusedSimpArgs false
def verN (v : Bool) : Int := if v then 6 else 4
def tupB (t : Tu) : List Int := verN t.s.v :: t.p :: (t.s.b ++ (t.d.b ++ [t.sp / 256, t.sp % 256, t.dp / 256, t.dp % 256]))
def tvals (t : Tu) : List (Int × List Int) := [(verN t.s.v, []), (t.p, []), (0, t.s.b), (0, t.d.b), (t.sp, []), (t.dp, [])]
def tops : List (Int × Int) := [(0, 1), (0, 1), (1, 16), (1, 16), (0, 2), (0, 2)]
theorem lay_step {acc : List Int} {o : Int × Int} {os : List (Int × Int)} {v : Int × List Int} {vs : List (Int × List Int)} (hf : CurP.fitsP o.1 o.2 v.1 v.2.length = true) (hl : acc.length ≤ 65000) (ho : o.2 ≤ 500) (hv : v.2.length ≤ 500) :
    CurP.layS acc (o :: os) (v :: vs) = CurP.layS (acc ++ CurP.layB o.1 o.2 v.1 v.2) os vs := by
  rw [CurP.layS, if_neg (by rw [hf]; decide), if_neg (by omega)]
theorem fits_n {s n : Int} (h1 : 1 ≤ s) (h8 : s ≤ 8) (h : n < 256 ^ s.toNat) : CurP.fitsP 0 s n ([] : List Int).length = true := by
  unfold CurP.fitsP; rw [if_pos rfl]; exact decide_eq_true ⟨h1, h8, h, rfl⟩
theorem fits_b {bs : List Int} {s : Int} (h : (bs.length : Int) = s) : CurP.fitsP 1 s 0 bs.length = true := by
  unfold CurP.fitsP; rw [if_neg (by decide), if_pos rfl]; exact decide_eq_true ⟨rfl, h⟩
theorem lay_n1 {n : Int} (h0 : 0 ≤ n) (h : n < 256) (bs : List Int) : CurP.layB 0 1 n bs = [n] := by
  unfold CurP.layB; rw [if_pos rfl]
  show CurP.numB 1 n = [n]
  simp [CurP.numB]; omega
theorem lay_n2 {n : Int} (h0 : 0 ≤ n) (h : n < 65536) (bs : List Int) : CurP.layB 0 2 n bs = [n / 256, n % 256] := by
  unfold CurP.layB; rw [if_pos rfl]
  show CurP.numB 2 n = _
  simp [CurP.numB]; omega
theorem lay_bb (s n : Int) (bs : List Int) : CurP.layB 1 s n bs = bs := by
  unfold CurP.layB; rw [if_neg (by decide), if_neg (by decide)]
theorem verN_in (v : Bool) : 0 ≤ verN v ∧ verN v < 256 := by cases v <;> decide
theorem rtB_facts {t : Tu} (h : rtB t = true) : t.s.v = t.d.v ∧ (0 ≤ t.sp ∧ t.sp ≤ 65535) ∧ (0 ≤ t.dp ∧ t.dp ≤ 65535) ∧ (t.p = 6 ∨ t.p = 17) := by
  unfold rtB inP at h
  simp only [Bool.and_eq_true, Bool.or_eq_true, beq_iff_eq, decide_eq_true_eq] at h
  exact ⟨h.1, h.2.2.2.1, h.2.2.2.2.1, h.2.2.2.2.2⟩
theorem layA_tup {t : Tu} (h : OkT t) (hr : rtB t = true) : CurP.layA (tvals t) tops = (0, tupB t) := by
  obtain ⟨hv, hsp, hdp, hp⟩ := rtB_facts hr
  have v1 := verN_in t.s.v
  have e : CurP.layS [] tops (tvals t) = (0, tupB t) := by
    unfold tops tvals
    rw [lay_step (fits_n (by decide) (by decide) (by show verN t.s.v < 256; exact v1.2)) (by simp) (by decide) (by simp), lay_n1 v1.1 v1.2,
      lay_step (fits_n (by decide) (by decide) (by show t.p < 256; omega)) (by simp) (by decide) (by simp), lay_n1 (by omega) (by omega),
      lay_step (fits_b (by rw [h.s.l]; rfl)) (by simp) (by decide) (by rw [h.s.l]; decide), lay_bb,
      lay_step (fits_b (by rw [h.d.l]; rfl)) (by simp [h.s.l]) (by decide) (by rw [h.d.l]; decide), lay_bb,
      lay_step (fits_n (by decide) (by decide) (by show t.sp < 65536; omega)) (by simp [h.s.l, h.d.l]) (by decide) (by simp), lay_n2 (by omega) (by omega),
      lay_step (fits_n (by decide) (by decide) (by show t.dp < 65536; omega)) (by simp [h.s.l, h.d.l]) (by decide) (by simp), lay_n2 (by omega) (by omega), CurP.layS]
    simp [tupB]
  unfold CurP.layA
  rw [e]
  rfl
theorem tupB_len {t : Tu} (h : OkT t) : (tupB t).length = 38 := by simp [tupB, h.s.l, h.d.l]
theorem tupB_bytes {t : Tu} (h : OkT t) (hr : rtB t = true) : CurP.AllB (tupB t) := by
  have := CurP.layA_bytes (tvals t) tops (fun v hv => by
    simp only [tvals, List.mem_cons, List.not_mem_nil, or_false] at hv
    rcases hv with rfl | rfl | rfl | rfl | rfl | rfl
    · exact fun _ h => absurd h List.not_mem_nil
    · exact fun _ h => absurd h List.not_mem_nil
    · exact h.s.a
    · exact h.d.a
    · exact fun _ h => absurd h List.not_mem_nil
    · exact fun _ h => absurd h List.not_mem_nil)
  rwa [layA_tup h hr] at this
end Go.Proofs.Ytfnpjfcfgilchaa.AddrW
