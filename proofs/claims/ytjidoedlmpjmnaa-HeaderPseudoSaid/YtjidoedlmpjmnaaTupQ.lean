/- TupQ: TupW1, TupP. -/
import Derived.Test.YtjidoedlmpjmnaaAddrL
import Derived.Test.YtjidoedlmpjmnaaWGuard
import Derived.Test.YtjidoedlmpjmnaaBase
import Derived.Deep.CutRange
import Derived.Test.YtjidoedlmpjmnaaCurQ
namespace Go.Proofs.Ytjidoedlmpjmnaa.AddrW
open Go.RowKit Go.Proofs.Ytjidoedlmpjmnaa.Segs Go.Proofs.Ytjidoedlmpjmnaa.Mem Go.Proofs.Ytjidoedlmpjmnaa.AddrEq Go.Proofs.Ytjidoedlmpjmnaa.AddrM Go.Proofs.Ytjidoedlmpjmnaa.Bits Go.Proofs.Ytjidoedlmpjmnaa.Help Go.Proofs.YtjidoedlmpjmnaaW.PrintWords Go.Proofs.YtjidoedlmpjmnaaW.PrintLast Go.Proofs.YtjidoedlmpjmnaaW.PrintMore
set_option linter.unusedVariables false
set_option linter.unusedSimpArgs false
structure Ad where
  v : Bool
  b : List Int
deriving DecidableEq
structure Tu where
  s : Ad
  d : Ad
  p : Int
  sp : Int
  dp : Int
deriving DecidableEq
def avl (a : Ad) : List Value := Value.bool a.v :: nums .u8 a.b
def tseg (t : Tu) : List (List Value) := [avl t.s, avl t.d, [.int .i64 t.p], [.int .i64 t.sp], [.int .i64 t.dp]]
def In64 (x : Int) : Prop := -9223372036854775808 ≤ x ∧ x ≤ 9223372036854775807
structure OkT (t : Tu) : Prop where
  s : OkA t.s.b
  d : OkA t.d.b
  p : In64 t.p
  sp : In64 t.sp
  dp : In64 t.dp
theorem avl_len {a : Ad} (h : OkA a.b) : (avl a).length = 17 := by simp [avl, nums, h.l]
theorem toff {t : Tu} (h : OkT t) : off (tseg t) 0 = 0 ∧ off (tseg t) 1 = 17 ∧ off (tseg t) 2 = 34 ∧ off (tseg t) 3 = 35 ∧ off (tseg t) 4 = 36 := by
  simp [off, tseg, avl_len h.s, avl_len h.d]
theorem tlen {t : Tu} (h : OkT t) : (tseg t).flatten.length = 37 := by simp [tseg, avl_len h.s, avl_len h.d]
theorem tone (t : Tu) : ∀ x ∈ (tseg t).flatten, x.oneCell' = true := by
  intro x hx
  simp only [tseg, avl, nums, List.flatten_cons, List.flatten_nil, List.mem_append, List.mem_cons, List.mem_map, List.append_nil, List.not_mem_nil, or_false] at hx
  rcases hx with (rfl | ⟨q, _, rfl⟩) | (rfl | ⟨q, _, rfl⟩) | rfl | rfl | rfl <;> rfl
def inP (x : Int) : Bool := decide (0 ≤ x) && decide (x ≤ 65535)
def rtB (t : Tu) : Bool := (t.s.v == t.d.v) && (rightB t.s.v t.s.b && (rightB t.d.v t.d.b && (inP t.sp && (inP t.dp && (t.p == 6 || t.p == 17)))))
end Go.Proofs.Ytjidoedlmpjmnaa.AddrW
namespace Go.Proofs.Ytjidoedlmpjmnaa.AddrW
open Go.RowKit Go.Proofs.Ytjidoedlmpjmnaa.AddrM Go.Proofs.Ytjidoedlmpjmnaa.Bits
set_option linter.unusedVariables false
set_option linter.unusedSimpArgs false
def verN (v : Bool) : Int := if v then 6 else 4
def tupB (t : Tu) : List Int := verN t.s.v :: t.p :: (t.s.b ++ (t.d.b ++ [t.sp / 256, t.sp % 256, t.dp / 256, t.dp % 256]))
def tvals (t : Tu) : List (Int × List Int) := [(verN t.s.v, []), (t.p, []), (0, t.s.b), (0, t.d.b), (t.sp, []), (t.dp, [])]
def tops : List (Int × Int) := [(0, 1), (0, 1), (1, 16), (1, 16), (0, 2), (0, 2)]
theorem lay_step {acc : List Int} {o : Int × Int} {os : List (Int × Int)} {v : Int × List Int} {vs : List (Int × List Int)} (hf : CurP.fitsP o.1 o.2 v.1 v.2.length = true) (hl : acc.length ≤ 65000) (ho : o.2 ≤ 500) (hv : v.2.length ≤ 500) :
    CurP.layS acc (o :: os) (v :: vs) = CurP.layS (acc ++ CurP.layB o.1 o.2 v.1 v.2) os vs := by
  rw [CurP.layS, if_neg (by rw [hf]; decide), if_neg (by omega)]
theorem fits_n {s n : Int} (h1 : 1 ≤ s) (h8 : s ≤ 8) (h : n < 256 ^ s.toNat) : CurP.fitsP 0 s n ([] : List Int).length = true := by
  unfold CurP.fitsP; rw [if_pos rfl]; exact decide_eq_true ⟨h1, h8, h, rfl⟩
theorem fits_b {bs : List Int} {s : Int} (h : (bs.length : Int) = s) : CurP.fitsP 1 s 0 bs.length = true := by
  unfold CurP.fitsP; rw [if_neg (by decide), if_pos rfl]; exact decide_eq_true ⟨rfl, h⟩
theorem lay_n1 {n : Int} (h0 : 0 ≤ n) (h : n < 256) (bs : List Int) : CurP.layB 0 1 n bs = [n] := by
  unfold CurP.layB; rw [if_pos rfl]
  show CurP.numB 1 n = [n]
  simp [CurP.numB]; omega
theorem lay_n2 {n : Int} (h0 : 0 ≤ n) (h : n < 65536) (bs : List Int) : CurP.layB 0 2 n bs = [n / 256, n % 256] := by
  unfold CurP.layB; rw [if_pos rfl]
  show CurP.numB 2 n = _
  simp [CurP.numB]; omega
theorem lay_bb (s n : Int) (bs : List Int) : CurP.layB 1 s n bs = bs := by
  unfold CurP.layB; rw [if_neg (by decide), if_neg (by decide)]
theorem verN_in (v : Bool) : 0 ≤ verN v ∧ verN v < 256 := by cases v <;> decide
theorem rtB_facts {t : Tu} (h : rtB t = true) : t.s.v = t.d.v ∧ (0 ≤ t.sp ∧ t.sp ≤ 65535) ∧ (0 ≤ t.dp ∧ t.dp ≤ 65535) ∧ (t.p = 6 ∨ t.p = 17) := by
  unfold rtB inP at h
  simp only [Bool.and_eq_true, Bool.or_eq_true, beq_iff_eq, decide_eq_true_eq] at h
  exact ⟨h.1, h.2.2.2.1, h.2.2.2.2.1, h.2.2.2.2.2⟩
theorem layA_tup {t : Tu} (h : OkT t) (hr : rtB t = true) : CurP.layA (tvals t) tops = (0, tupB t) := by
  obtain ⟨hv, hsp, hdp, hp⟩ := rtB_facts hr
  have v1 := verN_in t.s.v
  have e : CurP.layS [] tops (tvals t) = (0, tupB t) := by
    unfold tops tvals
    rw [lay_step (fits_n (by decide) (by decide) (by show verN t.s.v < 256; exact v1.2)) (by simp) (by decide) (by simp), lay_n1 v1.1 v1.2,
      lay_step (fits_n (by decide) (by decide) (by show t.p < 256; omega)) (by simp) (by decide) (by simp), lay_n1 (by omega) (by omega),
      lay_step (fits_b (by rw [h.s.l]; rfl)) (by simp) (by decide) (by rw [h.s.l]; decide), lay_bb,
      lay_step (fits_b (by rw [h.d.l]; rfl)) (by simp [h.s.l]) (by decide) (by rw [h.d.l]; decide), lay_bb,
      lay_step (fits_n (by decide) (by decide) (by show t.sp < 65536; omega)) (by simp [h.s.l, h.d.l]) (by decide) (by simp), lay_n2 (by omega) (by omega),
      lay_step (fits_n (by decide) (by decide) (by show t.dp < 65536; omega)) (by simp [h.s.l, h.d.l]) (by decide) (by simp), lay_n2 (by omega) (by omega), CurP.layS]
    simp [tupB]
  unfold CurP.layA
  rw [e]
  rfl
theorem tupB_len {t : Tu} (h : OkT t) : (tupB t).length = 38 := by simp [tupB, h.s.l, h.d.l]
theorem tupB_bytes {t : Tu} (h : OkT t) (hr : rtB t = true) : CurP.AllB (tupB t) := by
  have := CurP.layA_bytes (tvals t) tops (fun v hv => by
    simp only [tvals, List.mem_cons, List.not_mem_nil, or_false] at hv
    rcases hv with rfl | rfl | rfl | rfl | rfl | rfl
    · exact fun _ h => absurd h List.not_mem_nil
    · exact fun _ h => absurd h List.not_mem_nil
    · exact h.s.a
    · exact h.d.a
    · exact fun _ h => absurd h List.not_mem_nil
    · exact fun _ h => absurd h List.not_mem_nil)
  rwa [layA_tup h hr] at this
end Go.Proofs.Ytjidoedlmpjmnaa.AddrW
