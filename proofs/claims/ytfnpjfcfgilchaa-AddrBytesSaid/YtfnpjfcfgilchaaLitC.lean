/- A literal list, read: each element's cells are known. -/
import Derived.Test.YtfnpjfcfgilchaaBase
namespace Go.Proofs.Ytfnpjfcfgilchaa.Help
open Go.RowKit Go.Proofs.YtfnpjfcfgilchaaW.PrintWords Go.Proofs.YtfnpjfcfgilchaaW.PrintLast Go.Proofs.YtfnpjfcfgilchaaW.PrintMore
set_option linter.unusedVariables false
set_option linter.unusedSimpArgs false
theorem flatten_at {β : Type} {sz : Nat} : ∀ (l : List (List β)) (j i : Nat) (u : β), (∀ c ∈ l, c.length = sz) → (∀ c, l[j]? = some c → c[i]? = some u) → (hj : j < l.length) → i < sz → l.flatten[j * sz + i]? = some u
  | [], j, i, u, _, _, hj, _ => by simp at hj
  | c :: l, 0, i, u, hs, h, _, hi => by
    have hc := hs c List.mem_cons_self
    rw [Nat.zero_mul, Nat.zero_add, List.flatten_cons, List.getElem?_append_left (by omega)]
    exact h c rfl
  | c :: l, j + 1, i, u, hs, h, hj, hi => by
    have hc := hs c List.mem_cons_self
    rw [List.flatten_cons, List.getElem?_append_right (by rw [hc, Nat.succ_mul]; omega), hc, show (j + 1) * sz + i - sz = j * sz + i by rw [Nat.succ_mul]; omega]
    exact flatten_at l j i u (fun c hc => hs c (List.mem_cons_of_mem _ hc)) (fun c hc => h c (by simpa using hc)) (by simpa using hj) hi
theorem lit_C {α : Type} {d : Kd α} {w : World} {g t : Nat} (l : List (α × List Value)) (hK : ∀ p ∈ l, d.K w p.1 p.2) (h : w.heap[g]? = some (.cells ((l.map (·.2)).flatten).toArray t (0, 0))) (hl : l.length ≤ 9223372036854775807) :
    d.C w (some ⟨g, 0, none⟩) l.length (l.map (·.1)) := by
  refine ⟨by simp, hl, fun hp => ⟨_, rfl, fun j p hj => ?_⟩⟩
  rw [List.getElem?_map] at hj
  obtain ⟨x, hx, rfl⟩ := Option.map_eq_some_iff.1 hj
  have hm : x ∈ l := List.mem_of_getElem? hx
  have hjl : j < l.length := (List.getElem?_eq_some_iff.1 hx).1
  refine ⟨x.2, d.K_len (hK x hm), hK x hm, fun i u hu => ?_⟩
  have hi : i < d.sz := by rw [← d.K_len (hK x hm)]; exact (List.getElem?_eq_some_iff.1 hu).1
  have ha : (⟨g, 0, none⟩ : Addr).add (j * d.sz + i) = ⟨g, j * d.sz + i, none⟩ := by unfold Addr.add; split <;> simp_all
  rw [ha, blk_cell h, List.getElem?_toArray]
  refine flatten_at _ j i u (fun c hc => ?_) (fun c hc => ?_) (by simpa using hjl) hi
  · obtain ⟨q, hq, rfl⟩ := List.mem_map.1 hc
    exact d.K_len (hK q hq)
  · rw [List.getElem?_map, hx] at hc
    obtain rfl := Option.some.inj hc
    exact hu
end Go.Proofs.Ytfnpjfcfgilchaa.Help
