/- The order of addresses, plain. -/
import Derived.Test.YtfnpjfcfgilchaaAddrM
import Derived.Test.YtfnpjfcfgilchaaAddrW6
namespace Go.Proofs.Ytfnpjfcfgilchaa.AddrO
open Go.RowKit Go.Proofs.Ytfnpjfcfgilchaa.AddrM Go.Proofs.Ytfnpjfcfgilchaa.AddrW
set_option linter.unusedVariables false
set_option linter.unusedSimpArgs false
def sgn (x : Int) : Int := if x < 0 then -1 else if 0 < x then 1 else 0
theorem sgn_lt (x : Int) : sgn x < 0 ↔ x < 0 := by unfold sgn; split <;> (try split) <;> omega
theorem sgn_zero (x : Int) : sgn x = 0 ↔ x = 0 := by unfold sgn; split <;> (try split) <;> omega
theorem cmp_sgn : ∀ (xs ys : List Int), xs.length = ys.length → AllB xs → AllB ys → Lib.compareBytes (Lib.bytesOf xs) (Lib.bytesOf ys) = sgn (cmpL xs ys)
  | [], [], _, _, _ => rfl
  | [], _ :: _, h, _, _ => by simp at h
  | _ :: _, [], h, _, _ => by simp at h
  | x :: xs, y :: ys, h, hx, hy => by
    have ih := cmp_sgn xs ys (by simpa using h) (fun a ha => hx a (List.mem_cons_of_mem _ ha)) (fun a ha => hy a (List.mem_cons_of_mem _ ha))
    have h1 := hx x List.mem_cons_self
    have h2 := hy y List.mem_cons_self
    have e1 : (UInt8.ofNat x.toNat < UInt8.ofNat y.toNat) ↔ x < y := by
      rw [UInt8.lt_iff_toNat_lt, UInt8.toNat_ofNat', UInt8.toNat_ofNat', Nat.mod_eq_of_lt (by omega), Nat.mod_eq_of_lt (by omega)]; omega
    have e2 : (UInt8.ofNat y.toNat < UInt8.ofNat x.toNat) ↔ y < x := by
      rw [UInt8.lt_iff_toNat_lt, UInt8.toNat_ofNat', UInt8.toNat_ofNat', Nat.mod_eq_of_lt (by omega), Nat.mod_eq_of_lt (by omega)]; omega
    simp only [Lib.bytesOf, List.map_cons, Lib.compareBytes, cmpL]
    by_cases a : x < y
    · rw [if_pos (e1.2 a), if_neg (by omega)]; unfold sgn; rw [if_pos (by omega)]
    · rw [if_neg (fun h => a (e1.1 h))]
      by_cases b : y < x
      · rw [if_pos (e2.2 b), if_neg (by omega)]; unfold sgn; rw [if_neg (by omega), if_pos (by omega)]
      · rw [if_neg (fun h => b (e2.1 h)), if_pos (by omega)]
        exact ih
theorem ord_sgn (v : Bool) (bs : List Int) (u : Bool) (cs : List Int) (hl : bs.length = 16) (hm : cs.length = 16) (hb : AllB bs) (hc : AllB cs) : ordS v bs u cs = sgn (refCmpS v bs u cs) := by
  unfold ordS refCmpS
  split
  · exact cmp_sgn bs cs (by omega) hb hc
  · split <;> decide
theorem cmpL_self : ∀ xs : List Int, cmpL xs xs = 0
  | [] => rfl
  | x :: xs => by simp [cmpL, cmpL_self xs]
theorem cmpL_zero : ∀ (xs ys : List Int), xs.length = ys.length → cmpL xs ys = 0 → xs = ys
  | [], [], _, _ => rfl
  | [], _ :: _, h, _ => by simp at h
  | _ :: _, [], h, _ => by simp at h
  | x :: xs, y :: ys, h, e => by
    simp only [cmpL] at e
    split at e
    · rename_i q; rw [q, cmpL_zero xs ys (by simpa using h) e]
    · omega
theorem cmpL_neg : ∀ (xs ys : List Int), cmpL ys xs = - cmpL xs ys
  | [], [] => rfl
  | [], _ :: _ => rfl
  | _ :: _, [] => rfl
  | x :: xs, y :: ys => by
    simp only [cmpL]
    by_cases h : x = y
    · rw [if_pos h, if_pos h.symm, cmpL_neg xs ys]
    · rw [if_neg h, if_neg (fun e => h e.symm)]; omega
theorem cmpL_trans : ∀ (xs ys zs : List Int), xs.length = ys.length → ys.length = zs.length → cmpL xs ys < 0 → cmpL ys zs < 0 → cmpL xs zs < 0
  | [], [], [], _, _, h, _ => by simp [cmpL] at h
  | [], _ :: _, _, h, _, _, _ => by simp at h
  | _ :: _, [], _, h, _, _, _ => by simp at h
  | _, [], _ :: _, _, h, _, _ => by simp at h
  | _, _ :: _, [], _, h, _, _ => by simp at h
  | x :: xs, y :: ys, z :: zs, h1, h2, a, b => by
    simp only [cmpL] at a b ⊢
    have ih := cmpL_trans xs ys zs (by simpa using h1) (by simpa using h2)
    by_cases p : x = y
    · subst p
      rw [if_pos rfl] at a
      by_cases q : x = z
      · rw [if_pos q] at b ⊢; exact ih a b
      · rw [if_neg q] at b ⊢; exact b
    · rw [if_neg p] at a
      by_cases q : y = z
      · subst q; rw [if_neg p]; exact a
      · rw [if_neg q] at b; rw [if_neg (by omega)]; omega
theorem rc_self (v : Bool) (bs : List Int) : refCmpS v bs v bs = 0 := by simp [refCmpS, cmpL_self]
theorem rc_zero (v : Bool) (bs : List Int) (u : Bool) (cs : List Int) (h : bs.length = cs.length) (e : refCmpS v bs u cs = 0) : v = u ∧ bs = cs := by
  unfold refCmpS at e
  split at e
  · rename_i q; exact ⟨q, cmpL_zero _ _ h e⟩
  · split at e <;> omega
theorem rc_neg (v : Bool) (bs : List Int) (u : Bool) (cs : List Int) : refCmpS u cs v bs = - refCmpS v bs u cs := by
  unfold refCmpS
  cases v <;> cases u <;> simp [cmpL_neg bs cs]
theorem rc_trans (v : Bool) (bs : List Int) (u : Bool) (cs : List Int) (t : Bool) (ds : List Int) (h1 : bs.length = cs.length) (h2 : cs.length = ds.length) (a : refCmpS v bs u cs < 0) (b : refCmpS u cs t ds < 0) : refCmpS v bs t ds < 0 := by
  unfold refCmpS at *
  cases v <;> cases u <;> cases t <;> simp at a b ⊢ <;> exact cmpL_trans _ _ _ h1 h2 a b
end Go.Proofs.Ytfnpjfcfgilchaa.AddrO
