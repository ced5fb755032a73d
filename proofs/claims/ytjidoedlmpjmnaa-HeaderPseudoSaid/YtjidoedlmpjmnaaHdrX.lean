/- HdrX: HdrA, HdrC, HdrP, HdrE, HdrF, HdrJ, HdrK. -/
import Derived.Test.YtjidoedlmpjmnaaTupQ
import Derived.Test.YtjidoedlmpjmnaaCurT
import Derived.Test.YtjidoedlmpjmnaaBase
import Derived.Test.YtjidoedlmpjmnaaAddrL
import Derived.Test.YtjidoedlmpjmnaaSumQ
import Derived.Test.YtjidoedlmpjmnaaOwn2
import Derived.Test.YtjidoedlmpjmnaaAddrB
import Derived.Test.YtjidoedlmpjmnaaCurB
import Derived.Deep.CutRange
import Derived.Deep.LoopGhost
namespace Go.Proofs.Ytjidoedlmpjmnaa.Hdr
open Go.RowKit Go.Proofs.Ytjidoedlmpjmnaa.AddrW Go.Proofs.Ytjidoedlmpjmnaa.Segs Go.Proofs.Ytjidoedlmpjmnaa.Mem Go.Proofs.Ytjidoedlmpjmnaa.AddrEq Go.Proofs.Ytjidoedlmpjmnaa.AddrM Go.Proofs.Ytjidoedlmpjmnaa.Bits Go.Proofs.Ytjidoedlmpjmnaa.Help Go.Proofs.YtjidoedlmpjmnaaW.PrintWords Go.Proofs.YtjidoedlmpjmnaaW.PrintLast Go.Proofs.YtjidoedlmpjmnaaW.PrintMore
set_option linter.unusedVariables false
set_option linter.unusedSimpArgs false
/-- A packet. -/
structure Pk where
  v : Bool
  s : Ad
  d : Ad
  p : Int
  tt : Int
  ts : Int
  id : Int
  df : Bool
  lb : Int
  ol : List Int
  dl : List Int
deriving DecidableEq
/-- Where its bytes lie. -/
structure Pl where
  oA : Option Addr
  oc : Nat
  dA : Option Addr
  dc : Nat
def hseg (h : Pk) (q : Pl) : List (List Value) := [[.bool h.v], avl h.s, avl h.d, [.int .i64 h.p], [.int .i64 h.tt], [.int .i64 h.ts], [.int .i64 h.id], [.bool h.df], [.int .i64 h.lb], [.slice q.oA h.ol.length q.oc], [.slice q.dA h.dl.length q.dc]]
structure OkP (h : Pk) : Prop where
  s : OkA h.s.b
  d : OkA h.d.b
  p : In64 h.p
  tt : In64 h.tt
  ts : In64 h.ts
  id : In64 h.id
  lb : In64 h.lb
  ob : CurP.AllB h.ol
  db : CurP.AllB h.dl
  on : h.ol.length ≤ 140737488351232
  dn : h.dl.length ≤ 140737488351232
structure RdP (h : Pk) (q : Pl) (W : World) : Prop where
  o : Kd.C (Kd.int .u8) W q.oA h.ol.length h.ol
  oc : h.ol.length ≤ q.oc
  d : Kd.C (Kd.int .u8) W q.dA h.dl.length h.dl
  dc : h.dl.length ≤ q.dc
theorem RdP.below {h : Pk} {q : Pl} {W W1 : World} (H : RdP h q W) (hB : Below W.heap.size W W1) : RdP h q W1 := ⟨Kd.C_below H.o hB, H.oc, Kd.C_below H.d hB, H.dc⟩
theorem RdP.stays (h : Pk) (q : Pl) : Stays (RdP h q) := fun _ _ hB H => H.below hB
theorem hlens {h : Pk} (H : OkP h) (q : Pl) : (hseg h q).map List.length = [1, 17, 17, 1, 1, 1, 1, 1, 1, 1, 1] := by
  simp [hseg, avl_len H.s, avl_len H.d]
theorem hoff {h : Pk} (H : OkP h) (q : Pl) : off (hseg h q) 0 = 0 ∧ off (hseg h q) 1 = 1 ∧ off (hseg h q) 2 = 18 ∧ off (hseg h q) 3 = 35 ∧ off (hseg h q) 4 = 36 ∧ off (hseg h q) 5 = 37 ∧ off (hseg h q) 6 = 38 ∧ off (hseg h q) 7 = 39 ∧ off (hseg h q) 8 = 40 ∧ off (hseg h q) 9 = 41 ∧ off (hseg h q) 10 = 42 := by
  simp only [off_sum, hlens H q]
  decide
theorem hlen {h : Pk} (H : OkP h) (q : Pl) : (hseg h q).flatten.length = 43 := by
  rw [List.length_flatten, hlens H q]; decide
theorem avl_one (a : Ad) : ∀ x ∈ avl a, x.oneCell' = true := by
  intro x hx
  simp only [avl, nums, List.mem_cons, List.mem_map] at hx
  rcases hx with rfl | ⟨q, _, rfl⟩ <;> rfl
theorem hone (h : Pk) (q : Pl) : ∀ x ∈ (hseg h q).flatten, x.oneCell' = true := by
  intro x hx
  simp only [hseg, List.flatten_cons, List.flatten_nil, List.mem_append, List.mem_cons, List.append_nil, List.not_mem_nil, or_false] at hx
  rcases hx with rfl | hx | hx | rfl | rfl | rfl | rfl | rfl | rfl | rfl | rfl
  · rfl
  · exact avl_one _ x hx
  · exact avl_one _ x hx
  all_goals rfl
theorem infoH : (Try.prog.info? 28).map (·.size) = some 43 := by kernel_rfl
theorem infoHr : (Try.prog.info? 27).map (·.size) = some 43 := by kernel_rfl
/-- A packet's block. -/
abbrev BH (T : TypeId) (g : Nat) (h : Pk) (q : Pl) : World → Prop := Blk g (.cells (flat (hseg h q)) T (0, 0))
section
variable {W : World} {g : Nat} {h : Pk} {q : Pl} {T : TypeId}
theorem hc0 (H : OkP h) (hb : BH T g h q W) : W.cell? ⟨g, 0, none⟩ = some (.bool h.v) := seg_cell hb (i := 0) rfl (hoff H q).1
theorem hc1 (H : OkP h) (hb : BH T g h q W) : W.cell? ⟨g, 1, none⟩ = some (.bool h.s.v) := seg_cellj hb (i := 1) rfl (hoff H q).2.1 0 rfl
theorem hc18 (H : OkP h) (hb : BH T g h q W) : W.cell? ⟨g, 18, none⟩ = some (.bool h.d.v) := seg_cellj hb (i := 2) rfl (hoff H q).2.2.1 0 rfl
theorem hc35 (H : OkP h) (hb : BH T g h q W) : W.cell? ⟨g, 35, none⟩ = some (.int .i64 h.p) := seg_cell hb (i := 3) rfl (hoff H q).2.2.2.1
theorem hc36 (H : OkP h) (hb : BH T g h q W) : W.cell? ⟨g, 36, none⟩ = some (.int .i64 h.tt) := seg_cell hb (i := 4) rfl (hoff H q).2.2.2.2.1
theorem hc37 (H : OkP h) (hb : BH T g h q W) : W.cell? ⟨g, 37, none⟩ = some (.int .i64 h.ts) := seg_cell hb (i := 5) rfl (hoff H q).2.2.2.2.2.1
theorem hc38 (H : OkP h) (hb : BH T g h q W) : W.cell? ⟨g, 38, none⟩ = some (.int .i64 h.id) := seg_cell hb (i := 6) rfl (hoff H q).2.2.2.2.2.2.1
theorem hc39 (H : OkP h) (hb : BH T g h q W) : W.cell? ⟨g, 39, none⟩ = some (.bool h.df) := seg_cell hb (i := 7) rfl (hoff H q).2.2.2.2.2.2.2.1
theorem hc40 (H : OkP h) (hb : BH T g h q W) : W.cell? ⟨g, 40, none⟩ = some (.int .i64 h.lb) := seg_cell hb (i := 8) rfl (hoff H q).2.2.2.2.2.2.2.2.1
theorem hc41 (H : OkP h) (hb : BH T g h q W) : W.cell? ⟨g, 41, none⟩ = some (.slice q.oA h.ol.length q.oc) := seg_cell hb (i := 9) rfl (hoff H q).2.2.2.2.2.2.2.2.2.1
theorem hc42 (H : OkP h) (hb : BH T g h q W) : W.cell? ⟨g, 42, none⟩ = some (.slice q.dA h.dl.length q.dc) := seg_cell hb (i := 10) rfl (hoff H q).2.2.2.2.2.2.2.2.2.2
theorem load_hs (H : OkP h) (hb : BH T g h q W) : (loadVar 24 ⟨g, 1, none⟩).run Try.prog W = .ok (.agg (av h.s.v h.s.b)) W :=
  seg_load hb (i := 1) rfl (hoff H q).2.1 Try.underlying24 rfl info_addr (avl_len H.s)
theorem load_hd (H : OkP h) (hb : BH T g h q W) : (loadVar 24 ⟨g, 18, none⟩).run Try.prog W = .ok (.agg (av h.d.v h.d.b)) W :=
  seg_load hb (i := 2) rfl (hoff H q).2.2.1 Try.underlying24 rfl info_addr (avl_len H.d)
theorem load_h (H : OkP h) (hb : BH T g h q W) : (loadVar 28 ⟨g, 0, none⟩).run Try.prog W = .ok (.agg (flat (hseg h q))) W :=
  seg_whole hb Try.underlying28 rfl infoH (hlen H q)
theorem load_hr (H : OkP h) (hb : BH T g h q W) : (loadVar 27 ⟨g, 0, none⟩).run Try.prog W = .ok (.agg (flat (hseg h q))) W :=
  seg_whole hb Try.underlying27 rfl infoHr (hlen H q)
end
/-- How many bytes a head has. -/
def hdN (h : Pk) : Nat := if h.v then 40 else 20 + h.ol.length
theorem Size_any (h : Pk) (q : Pl) (w : World) (H : OkP h) : Calls Try.prog 12 #[.agg (flat (hseg h q))] w fun e w' => e = .returned (.int .i64 (hdN h : Nat)) ∧ Below w.heap.size w w' := by
  have hb := blk_new w (.cells (flat (hseg h q)) 28)
  have c0 := hc0 H hb
  have c41 := hc41 H hb
  have hw : IntKind.i64.wrap (20 + (h.ol.length : Int)) = ((20 + h.ol.length : Nat) : Int) := by rw [IntWalk.i64_in _ (by have := H.on; omega)]; simp
  have HN : Aside0 (hdN h = if h.v then 40 else 20 + h.ol.length) := ⟨rfl⟩
  clear hb H
  generalize h.v = v at *
  generalize 20 + h.ol.length = m at *
  cases v
  · go_enter Try.func12, Try.ntmps12
    go_wp2_with fail
    go_ret
    exact ⟨by rw [HN.out]; rfl, below_alloc (Below.refl _ _) _⟩
  · go_enter Try.func12, Try.ntmps12
    go_wp2_with fail
    go_ret
    exact ⟨by rw [HN.out]; rfl, below_alloc (Below.refl _ _) _⟩
theorem refSize_any (h : Pk) (q : Pl) (w : World) (H : OkP h) : Calls Try.prog 13 #[.agg (flat (hseg h q))] w fun e w' => e = .returned (.int .i64 (hdN h : Nat)) ∧ Below w.heap.size w w' := by
  have hb := blk_new w (.cells (flat (hseg h q)) 27)
  have c0 := hc0 H hb
  have c41 := hc41 H hb
  have hw : IntKind.i64.wrap (20 + (h.ol.length : Int)) = ((20 + h.ol.length : Nat) : Int) := by rw [IntWalk.i64_in _ (by have := H.on; omega)]; simp
  have HN : Aside0 (hdN h = if h.v then 40 else 20 + h.ol.length) := ⟨rfl⟩
  clear hb H
  generalize h.v = v at *
  generalize 20 + h.ol.length = m at *
  cases v
  · go_enter Try.func13, Try.ntmps13
    go_wp2_with fail
    go_ret
    exact ⟨by rw [HN.out]; rfl, below_alloc (Below.refl _ _) _⟩
  · go_enter Try.func13, Try.ntmps13
    go_wp2_with fail
    go_ret
    exact ⟨by rw [HN.out]; rfl, below_alloc (Below.refl _ _) _⟩
/-! ### can it be -/
def inB (n m : Int) : Bool := decide (0 ≤ n) && decide (n ≤ m)
theorem in_any (n m : Int) (w : World) : Calls Try.prog 37 #[.int .i64 n, .int .i64 m] w fun e w' => e = .returned (.bool (inB n m)) ∧ Below w.heap.size w w' := by
  unfold inB
  by_cases h : 0 ≤ n
  · have d : decide (0 ≤ n) = true := by simpa using h
    go_enter Try.func37, Try.ntmps37
    go_wp2_with fail
    go_ret
    exact ⟨by rw [d]; rfl, Below.refl _ _⟩
  · have d : decide (0 ≤ n) = false := by simpa using h
    have D := Aside0.mk d
    go_enter Try.func37, Try.ntmps37
    go_wp2_with fail
    go_ret
    exact ⟨by first | rfl | (rw [D.out]; rfl) | simp, Below.refl _ _⟩
theorem within_any (n m : Int) (w : World) : Calls Try.prog 49 #[.int .i64 n, .int .i64 m] w fun e w' => e = .returned (.bool (inB n m)) ∧ Below w.heap.size w w' := by
  unfold inB
  by_cases h : 0 ≤ n
  · have d : decide (0 ≤ n) = true := by simpa using h
    go_enter Try.func49, Try.ntmps49
    go_wp2_with fail
    go_ret
    exact ⟨by rw [d]; rfl, Below.refl _ _⟩
  · have d : decide (0 ≤ n) = false := by simpa using h
    have D := Aside0.mk d
    go_enter Try.func49, Try.ntmps49
    go_wp2_with fail
    go_ret
    exact ⟨by first | rfl | (rw [D.out]; rfl) | simp, Below.refl _ _⟩
def baseR (h : Pk) : Bool := (h.s.v == h.v) && ((h.d.v == h.v) && (rightB h.s.v h.s.b && (rightB h.d.v h.d.b && (inB h.p 255 && (inB h.tt 255 && inB h.ts 255)))))
def restR (h : Pk) : Bool := if h.v then (h.id == 0) && (!h.df && (decide (h.ol.length = 0) && inB h.lb 1048575)) else (h.lb == 0) && (inB h.id 65535 && (decide (h.ol.length ≤ 40) && decide (h.ol.length % 4 = 0)))
def rightH (h : Pk) : Bool := baseR h && restR h
end Go.Proofs.Ytjidoedlmpjmnaa.Hdr
namespace Go.Proofs.Ytjidoedlmpjmnaa.Hdr
open Go.RowKit Go.Proofs.Ytjidoedlmpjmnaa.StepX Go.Proofs.Ytjidoedlmpjmnaa.AddrW Go.Proofs.Ytjidoedlmpjmnaa.Segs Go.Proofs.Ytjidoedlmpjmnaa.Mem Go.Proofs.Ytjidoedlmpjmnaa.AddrEq Go.Proofs.Ytjidoedlmpjmnaa.AddrM Go.Proofs.Ytjidoedlmpjmnaa.Bits Go.Proofs.Ytjidoedlmpjmnaa.Help Go.Proofs.YtjidoedlmpjmnaaW.PrintWords Go.Proofs.YtjidoedlmpjmnaaW.PrintLast Go.Proofs.YtjidoedlmpjmnaaW.PrintMore
set_option linter.unusedVariables false
set_option linter.unusedSimpArgs false
def nA : Ad := ⟨false, zs 16⟩
theorem nA_ok : OkA nA.b := ⟨zs16, fun x hx => by simp [nA, zs] at hx; omega⟩
def zP : Pk := ⟨false, nA, nA, 0, 0, 0, 0, false, 0, [], []⟩
def zL : Pl := ⟨none, 0, none, 0⟩
theorem zP_ok : OkP zP := ⟨nA_ok, nA_ok, ⟨by decide, by decide⟩, ⟨by decide, by decide⟩, ⟨by decide, by decide⟩, ⟨by decide, by decide⟩, ⟨by decide, by decide⟩, fun x hx => (by cases hx), fun x hx => (by cases hx), by decide, by decide⟩
theorem zP_rd (W : World) : RdP zP zL W := ⟨Cur.C_zero _ _, Nat.le_refl _, Cur.C_zero _ _, Nat.le_refl _⟩
def hplace : Array (Nat × Nat) := #[(0, 1), (1, 17), (18, 17), (35, 1), (36, 1), (37, 1), (38, 1), (39, 1), (40, 1), (41, 1), (42, 1)]
theorem built_hh (parts : List (Nat × Value)) : Try.prog.built 28 parts = Instr.fill (hplace[·]?) (flat (hseg zP zL)) parts := by kernel_rfl
theorem built_hr (parts : List (Nat × Value)) : Try.prog.built 27 parts = Instr.fill (hplace[·]?) (flat (hseg zP zL)) parts := by kernel_rfl
/-- The parts of a literal. -/
def allp (h : Pk) (q : Pl) : List (Nat × Value) := [(0, .bool h.v), (1, .agg (av h.s.v h.s.b)), (2, .agg (av h.d.v h.d.b)), (3, .int .i64 h.p), (4, .int .i64 h.tt), (5, .int .i64 h.ts), (6, .int .i64 h.id), (7, .bool h.df), (8, .int .i64 h.lb), (9, .slice q.oA h.ol.length q.oc), (10, .slice q.dA h.dl.length q.dc)]
theorem allp_ok {h : Pk} (H : OkP h) (q : Pl) : ∀ p ∈ allp h q, (hseg h q)[p.1]? = some p.2.cells.toList ∧ hplace[p.1]? = some (off (hseg h q) p.1, p.2.cells.toList.length) := by
  have a17 : (av h.s.v h.s.b).toList.length = 17 := avl_len H.s
  have b17 : (av h.d.v h.d.b).toList.length = 17 := avl_len H.d
  obtain ⟨o0, o1, o2, o3, o4, o5, o6, o7, o8, o9, o10⟩ := hoff H q
  intro p hp
  simp only [allp, List.mem_cons, List.not_mem_nil, or_false] at hp
  rcases hp with rfl | rfl | rfl | rfl | rfl | rfl | rfl | rfl | rfl | rfl | rfl
  · exact ⟨rfl, by rw [o0]; rfl⟩
  · exact ⟨rfl, by rw [o1]; simp only [Value.cells, a17]; rfl⟩
  · exact ⟨rfl, by rw [o2]; simp only [Value.cells, b17]; rfl⟩
  · exact ⟨rfl, by rw [o3]; rfl⟩
  · exact ⟨rfl, by rw [o4]; rfl⟩
  · exact ⟨rfl, by rw [o5]; rfl⟩
  · exact ⟨rfl, by rw [o6]; rfl⟩
  · exact ⟨rfl, by rw [o7]; rfl⟩
  · exact ⟨rfl, by rw [o8]; rfl⟩
  · exact ⟨rfl, by rw [o9]; rfl⟩
  · exact ⟨rfl, by rw [o10]; rfl⟩
theorem fillH {h : Pk} (H : OkP h) (q : Pl) (ps : List (Nat × Value)) (hs : ∀ p ∈ ps, p ∈ allp h q) (hz : ∀ i, i < 11 → (∀ p ∈ ps, p.1 ≠ i) → (hseg zP zL)[i]? = (hseg h q)[i]?) : Instr.fill (hplace[·]?) (flat (hseg zP zL)) ps = some (flat (hseg h q)) :=
  fill_struct ps _ (by rw [hlens zP_ok, hlens H]) (fun p hp => allp_ok H q p (hs p hp)) (fun i hi => hz i hi)
theorem fillH_all {h : Pk} (H : OkP h) (q : Pl) : Instr.fill (hplace[·]?) (flat (hseg zP zL)) (allp h q) = some (flat (hseg h q)) := by
  refine fillH H q _ (fun p hp => hp) (fun i hi hn => ?_)
  have hm : i ∈ (allp h q).map (·.1) := by
    show i ∈ [0, 1, 2, 3, 4, 5, 6, 7, 8, 9, 10]
    simp only [List.mem_cons, List.not_mem_nil, or_false]
    omega
  obtain ⟨p, hp, he⟩ := List.mem_map.1 hm
  exact absurd he (hn p hp)
theorem built_h {h : Pk} (H : OkP h) (q : Pl) : Try.prog.built 28 (allp h q) = some (flat (hseg h q)) := by rw [built_hh]; exact fillH_all H q
theorem built_r {h : Pk} (H : OkP h) (q : Pl) : Try.prog.built 27 (allp h q) = some (flat (hseg h q)) := by rw [built_hr]; exact fillH_all H q
theorem built_h0 : Try.prog.built 28 [] = some (flat (hseg zP zL)) := by rw [built_hh]; rfl
theorem built_r0 : Try.prog.built 27 [] = some (flat (hseg zP zL)) := by rw [built_hr]; rfl
theorem hsize {h : Pk} (H : OkP h) (q : Pl) : (flat (hseg h q)).size = 43 := by have := hlen H q; simpa [flat] using this
section
variable {w W : World} {g : Nat} {x y : Pk} {qx qy : Pl}
theorem results_h {fn : Func} {p : Tmp} (h : fn.results = #[.cell p 28]) (tmps : Array Value) (w : World) (hx : OkP x) (hp : tmps.getD p undef = .pointer (some ⟨g, 0, none⟩)) (hb : BH 28 g x qx w) :
    (results fn tmps).run Try.prog w = .ok (.agg (flat (hseg x qx))) w :=
  results_cell_row h tmps w g _ _ (0, 0) _ hp hb Try.underlying28 rfl (by rw [infoH, hsize hx])
theorem results_hr {fn : Func} {p : Tmp} (h : fn.results = #[.cell p 27]) (tmps : Array Value) (w : World) (hx : OkP x) (hp : tmps.getD p undef = .pointer (some ⟨g, 0, none⟩)) (hb : BH 27 g x qx w) :
    (results fn tmps).run Try.prog w = .ok (.agg (flat (hseg x qx))) w :=
  results_cell_row h tmps w g _ _ (0, 0) _ hp hb Try.underlying27 rfl (by rw [infoHr, hsize hx])
theorem results_h2 {fn : Func} {p u : Tmp} (h : fn.results = #[.cell p 28, .tmp u]) (tmps : Array Value) (w : World) (hx : OkP x) (hp : tmps.getD p undef = .pointer (some ⟨g, 0, none⟩)) (hb : BH 28 g x qx w) :
    (results fn tmps).run Try.prog w = .ok (.tuple #[.agg (flat (hseg x qx)), tmps.getD u undef]) w := by
  rw [results_cell_tmp h, hp]
  simp only [asAddr, Sem.run_pure, Result.andThen_ok, load_h hx hb]
/-- One stored into what was made just now. -/
theorem h_new (w : World) {g : Nat} (hg : g = w.heap.size) (hx : OkP x) (hy : OkP y) (qx qy : Pl) : (storeVar 28 ⟨g, 0, none⟩ (.agg (flat (hseg x qx)))).run Try.prog (w.alloc (.cells (flat (hseg y qy)) 28)) = .ok () (w.alloc (.cells (flat (hseg x qx)) 28)) :=
  seg_new w hg (by rw [hsize hy, hlen hx]) (by rw [hsize hy]; exact infoH) (hone x qx)
theorem hr_new (w : World) {g : Nat} (hg : g = w.heap.size) (hx : OkP x) (hy : OkP y) (qx qy : Pl) : (storeVar 27 ⟨g, 0, none⟩ (.agg (flat (hseg x qx)))).run Try.prog (w.alloc (.cells (flat (hseg y qy)) 27)) = .ok () (w.alloc (.cells (flat (hseg x qx)) 27)) :=
  seg_new w hg (by rw [hsize hy, hlen hx]) (by rw [hsize hy]; exact infoHr) (hone x qx)
/-- One stored over another one. -/
theorem h_over (hx : OkP x) (hy : OkP y) (qx : Pl) (hg : w.heap.size ≤ g) (hB : Below w.heap.size w W) (hb : BH 28 g y qy W) :
    ∃ W1, (storeVar 28 ⟨g, 0, none⟩ (.agg (flat (hseg x qx)))).run Try.prog W = .ok () W1 ∧ BH 28 g x qx W1 ∧ Below w.heap.size w W1 ∧ W.grownBy W1 (some g) :=
  ⟨_, seg_over hb (by rw [hlen hx, hlen hy]) infoH (hlen hx qx) (hone x qx), setRow_heap _ _ _ _ _ _ hb, hB.grown (World.grownBy_setRow' W g (flat (hseg x qx))) hB.size (fun k hk => by cases hk; exact hg), World.grownBy_setRow' W g (flat (hseg x qx))⟩
theorem hr_over (hx : OkP x) (hy : OkP y) (qx : Pl) (hg : w.heap.size ≤ g) (hB : Below w.heap.size w W) (hb : BH 27 g y qy W) :
    ∃ W1, (storeVar 27 ⟨g, 0, none⟩ (.agg (flat (hseg x qx)))).run Try.prog W = .ok () W1 ∧ BH 27 g x qx W1 ∧ Below w.heap.size w W1 ∧ W.grownBy W1 (some g) :=
  ⟨_, seg_over hb (by rw [hlen hx, hlen hy]) infoHr (hlen hx qx) (hone x qx), setRow_heap _ _ _ _ _ _ hb, hB.grown (World.grownBy_setRow' W g (flat (hseg x qx))) hB.size (fun k hk => by cases hk; exact hg), World.grownBy_setRow' W g (flat (hseg x qx))⟩
end
end Go.Proofs.Ytjidoedlmpjmnaa.Hdr
namespace Go.Proofs.Ytjidoedlmpjmnaa.Hdr
open Go.RowKit Go.Proofs.Ytjidoedlmpjmnaa.SumsP Go.Proofs.Ytjidoedlmpjmnaa.AddrW Go.Proofs.Ytjidoedlmpjmnaa.AddrM
set_option linter.unusedVariables false
set_option linter.unusedSimpArgs false
/-- A number's two bytes. -/
def be2 (n : Int) : List Int := [n / 256 % 256, n % 256]
def set2 (l : List Int) (k : Nat) (n : Int) : List Int := (l.set k (n / 256 % 256)).set (k + 1) (n % 256)
def zero2 (l : List Int) (k : Nat) : List Int := (l.set k 0).set (k + 1) 0
def dfN (b : Bool) : Int := if b then 16384 else 0
/-- The head of a packet of four, 0 for its sum. -/
def pre4 (h : Pk) : List Int := [64 + (hdN h : Int) / 4, h.ts] ++ (be2 ((hdN h : Int) + h.dl.length) ++ (be2 h.id ++ (be2 (dfN h.df) ++ ([h.tt, h.p, 0, 0] ++ (h.s.b.take 4 ++ (h.d.b.take 4 ++ h.ol))))))
def put4 (h : Pk) : List Int := set2 (pre4 h) 10 (InetS (pre4 h)) ++ h.dl
def pre6 (h : Pk) : List Int := [96 + h.ts / 16, h.ts % 16 * 16 + h.lb / 65536] ++ (be2 h.lb ++ (be2 h.dl.length ++ ([h.p, h.tt] ++ (h.s.b ++ h.d.b))))
def put6 (h : Pk) : List Int := pre6 h ++ h.dl
def putE (h : Pk) : Int := if rightH h = false then 1 else if (h.dl.length : Int) > 65535 - (hdN h : Int) then 3 else 0
def putH (h : Pk) : List Int := if putE h = 0 then (if h.v then put6 h else put4 h) else []
/-! ### read -/
def by_ (xs : List Int) (i : Nat) : Int := xs.getD i 0
def two (xs : List Int) (k : Nat) : Int := xs.getD k 0 * 256 + xs.getD (k + 1) 0
def headN (xs : List Int) : Int := xs.getD 0 0 % 16 * 4
def E4 (xs : List Int) : Int :=
  if xs.length < 20 then 10 else if headN xs < 20 ∨ two xs 2 < headN xs then 11 else if (xs.length : Int) < two xs 2 then 10 else if two xs 2 < (xs.length : Int) then 11
  else if two xs 10 ≠ InetS (zero2 (xs.take (headN xs).toNat) 10) then 12 else if 128 ≤ xs.getD 6 0 then 11 else if two xs 6 % 16384 ≠ 0 then 15 else 0
def P4 (xs : List Int) : Pk := ⟨false, ⟨false, (xs.drop 12).take 4 ++ zs 12⟩, ⟨false, (xs.drop 16).take 4 ++ zs 12⟩, xs.getD 9 0, xs.getD 8 0, xs.getD 1 0, two xs 4, decide (64 ≤ xs.getD 6 0), 0, (xs.take (headN xs).toNat).drop 20, xs.drop (headN xs).toNat⟩
def E6 (xs : List Int) : Int :=
  if xs.length < 40 then 10 else if (xs.length : Int) - 40 < two xs 4 then 10 else if two xs 4 < (xs.length : Int) - 40 then 11 else 0
def P6 (xs : List Int) : Pk := ⟨true, ⟨true, (xs.drop 8).take 16⟩, ⟨true, (xs.drop 24).take 16⟩, xs.getD 6 0, xs.getD 7 0, xs.getD 0 0 % 16 * 16 + xs.getD 1 0 / 16, 0, false, xs.getD 1 0 % 16 * 65536 + two xs 2, [], xs.drop 40⟩
def parseH (xs : List Int) : Int × Pk :=
  if xs.length = 0 then (10, zP) else if xs.getD 0 0 / 16 = 4 then (if E4 xs = 0 then (0, P4 xs) else (E4 xs, zP))
  else if xs.getD 0 0 / 16 = 6 then (if E6 xs = 0 then (0, P6 xs) else (E6 xs, zP)) else (13, zP)
theorem inB_iff {n m : Int} : inB n m = true ↔ 0 ≤ n ∧ n ≤ m := by unfold inB; simp
/-- What a packet that can be has. -/
structure RtP (h : Pk) : Prop where
  sv : h.s.v = h.v
  dv : h.d.v = h.v
  sr : rightB h.s.v h.s.b = true
  dr : rightB h.d.v h.d.b = true
  p : 0 ≤ h.p ∧ h.p ≤ 255
  tt : 0 ≤ h.tt ∧ h.tt ≤ 255
  ts : 0 ≤ h.ts ∧ h.ts ≤ 255
  v6 : h.v = true → h.id = 0 ∧ h.df = false ∧ h.ol = [] ∧ 0 ≤ h.lb ∧ h.lb ≤ 1048575
  v4 : h.v = false → h.lb = 0 ∧ (0 ≤ h.id ∧ h.id ≤ 65535) ∧ h.ol.length ≤ 40 ∧ h.ol.length % 4 = 0
theorem rt_of {h : Pk} (H : rightH h = true) : RtP h := by
  unfold rightH baseR restR at H
  simp only [Bool.and_eq_true, inB_iff, beq_iff_eq] at H
  obtain ⟨⟨h1, h2, h3, h4, h5, h6, h7⟩, h8⟩ := H
  refine ⟨h1, h2, h3, h4, h5, h6, h7, fun hv => ?_, fun hv => ?_⟩
  · rw [hv] at h8
    simp [inB_iff] at h8
    obtain ⟨a, b, c, d⟩ := h8
    exact ⟨a, b, c, d⟩
  · rw [hv] at h8
    simp [inB_iff] at h8
    exact h8
theorem right_of {h : Pk} (H : RtP h) : rightH h = true := by
  unfold rightH baseR restR
  simp only [Bool.and_eq_true, inB_iff, beq_iff_eq]
  refine ⟨⟨H.sv, H.dv, H.sr, H.dr, H.p, H.tt, H.ts⟩, ?_⟩
  cases hv : h.v
  · have := H.v4 hv
    simp [inB_iff, this]
  · have := H.v6 hv
    simp [inB_iff, this]
end Go.Proofs.Ytjidoedlmpjmnaa.Hdr
namespace Go.Proofs.Ytjidoedlmpjmnaa.Hdr
open Go.RowKit Go.Proofs.Ytjidoedlmpjmnaa.CurP Go.Proofs.Ytjidoedlmpjmnaa.SumW Go.Proofs.Ytjidoedlmpjmnaa.SumsP Go.Proofs.Ytjidoedlmpjmnaa.Own Go.Proofs.Ytjidoedlmpjmnaa.StepX Go.Proofs.Ytjidoedlmpjmnaa.AddrW Go.Proofs.Ytjidoedlmpjmnaa.Segs Go.Proofs.Ytjidoedlmpjmnaa.Mem Go.Proofs.Ytjidoedlmpjmnaa.AddrEq Go.Proofs.Ytjidoedlmpjmnaa.Bits Go.Proofs.Ytjidoedlmpjmnaa.Help Go.Proofs.YtjidoedlmpjmnaaW.PrintWords Go.Proofs.YtjidoedlmpjmnaaW.PrintLast Go.Proofs.YtjidoedlmpjmnaaW.PrintMore
set_option linter.unusedVariables false
set_option linter.unusedSimpArgs false
theorem bytes_set {l : List Int} (h : Bytes l) (i : Nat) {x : Int} (hx : 0 ≤ x ∧ x ≤ 255) : Bytes (l.set i x) := fun y hy => by
  rcases List.mem_or_eq_of_mem_set hy with h1 | rfl
  · exact h y h1
  · exact hx
theorem zero2_bytes {l : List Int} (h : Bytes l) (k : Nat) : Bytes (zero2 l k) := bytes_set (bytes_set h _ ⟨by omega, by omega⟩) _ ⟨by omega, by omega⟩
theorem zero2_len (l : List Int) (k : Nat) : (zero2 l k).length = l.length := by simp [zero2]
/-- Two bytes of a row of one's own set. -/
theorem Owns.set2 {W : World} {base : Nat} {v : Value} {xs : List Int} (h : Owns W base v xs) {k : Nat} (hk : k + 1 < xs.length) (x y : Int) :
    ∃ g c, v = .slice (some ⟨g, 0, none⟩) xs.length c ∧ base ≤ g ∧ W.cell? ⟨g, k, none⟩ = some (.int .u8 (xs.getD k 0)) ∧ W.frozen? ⟨g, k, none⟩ = false ∧
      (W.setCell ⟨g, k, none⟩ (.int .u8 x)).cell? ⟨g, k + 1, none⟩ = some (.int .u8 (xs.getD (k + 1) 0)) ∧ (W.setCell ⟨g, k, none⟩ (.int .u8 x)).frozen? ⟨g, k + 1, none⟩ = false ∧
      Owns ((W.setCell ⟨g, k, none⟩ (.int .u8 x)).setCell ⟨g, k + 1, none⟩ (.int .u8 y)) base v ((xs.set k x).set (k + 1) y) ∧ W.grownBy ((W.setCell ⟨g, k, none⟩ (.int .u8 x)).setCell ⟨g, k + 1, none⟩ (.int .u8 y)) (some g) := by
  obtain ⟨g, c, hv, hb, hc, h1, ⟨cs, h2⟩, h3, h4⟩ := h.set (i := k) (by omega) x
  subst hv
  obtain ⟨g', c', hv', -, -, h5, ⟨cs', h6⟩, h7, h8⟩ := h3.set (i := k + 1) (by rw [List.length_set]; omega) y
  injection hv' with e1 e2 e3
  injection e1 with e1
  injection e1 with e1
  subst e1
  refine ⟨g, c, rfl, hb, h1, blk_frozen h2 k, ?_, blk_frozen h6 (k + 1), h7, h4.trans h8⟩
  rw [h5, List.getD_eq_getElem?_getD, List.getD_eq_getElem?_getD, List.getElem?_set_ne (by omega)]
set_option maxHeartbeats 2000000 in
theorem check_any (A : Option Addr) (c : Nat) (xs : List Int) (w : World) (hr : Kd.C (Kd.int .u8) w A xs.length xs) (hl : xs.length ≤ 140737488351232) (hx : Bytes xs) (h12 : 12 ≤ xs.length) :
    Calls Try.prog 28 #[.slice A xs.length c] w fun e w' => e = .returned (.int .u16 (InetS (zero2 xs 10))) ∧ Below w.heap.size w w' := by
  have HC := Aside0.mk (Clone_any A c xs w hr hl)
  have HX := Aside0.mk (And.intro hx (And.intro hl h12))
  clear hr hl hx h12
  go_enter Try.func28, Try.ntmps28
  go_wp2_with fail
  refine HC.out.mono ?_
  rintro e w1 ⟨v, rfl, hO, hB⟩
  obtain ⟨g, cc, rfl, hb, c10, f10, c11, f11, hO2, hg⟩ := Owns.set2 hO (k := 10) (by have := HX.out.2.2; omega) 0 0
  have HB := Aside0.mk (hB.grown hg hB.size (fun k e => by cases e; exact hb))
  have hlen : (10 : Int) < xs.length := by have := HX.out.2.2; omega
  have hlen2 : (11 : Int) < xs.length := by have := HX.out.2.2; omega
  have HO := Aside0.mk hO2
  clear hO hB hb hg hO2 HC
  generalize xs.getD 10 0 = x10 at *
  generalize xs.getD (10 + 1) 0 = x11 at *
  have hm := HX.out.2.1
  go_wp2_with fail
  generalize (w1.setCell ⟨g, 10, none⟩ (.int .u8 0)).setCell ⟨g, 10 + 1, none⟩ (.int .u8 0) = W2 at *
  obtain ⟨A2, c2, hv, -, hC⟩ := HO.out.reads (by simp; omega)
  rw [List.length_set, List.length_set] at hv
  injection hv with e1 e2 e3
  subst e1 e3
  have HI := Inet_any (some ⟨g, 0, none⟩) cc (zero2 xs 10) W2 hC (zero2_bytes HX.out.1 _) (by rw [zero2_len]; have := HX.out.2.1; omega)
  rw [zero2_len] at HI
  refine HI.mono ?_
  rintro e w3 ⟨rfl, rfl⟩
  go_wp2_with fail
  go_ret
  exact ⟨rfl, HB.out⟩
set_option maxHeartbeats 2000000 in
theorem own_any (A : Option Addr) (c : Nat) (xs : List Int) (w : World) (hr : Kd.C (Kd.int .u8) w A xs.length xs) (hl : xs.length ≤ 140737488351232) (hx : Bytes xs) (h12 : 12 ≤ xs.length) :
    Calls Try.prog 32 #[.slice A xs.length c] w fun e w' => e = .returned (.int .i64 (InetS (zero2 xs 10))) ∧ Below w.heap.size w w' := by
  obtain ⟨v1, w1, hrun, hR⟩ := (RB.nil w).app (c := c) hr (by simp; omega)
  rw [List.nil_append] at hR
  have HRUN := Aside0.mk hrun
  have HX := Aside0.mk (And.intro hx (And.intro hl h12))
  obtain ⟨g, cc, rfl, hb, c10, f10, c11, f11, hO2, hg⟩ := Owns.set2 hR.o (k := 10) (by omega) 0 0
  have HB := Aside0.mk (hR.l.grown hg hR.l.size (fun k e => by cases e; exact hb))
  have hlen : (10 : Int) < xs.length := by omega
  have hlen2 : (11 : Int) < xs.length := by omega
  have HO := Aside0.mk hO2
  have hbd := inet_bd (zero2_bytes hx 10)
  have hw : IntKind.i64.wrap (InetS (zero2 xs 10)) = InetS (zero2 xs 10) := IntWalk.i64_in _ (by omega)
  clear hr hx h12 hrun hR hb hg hO2 hbd
  generalize xs.getD 10 0 = x10 at *
  generalize xs.getD (10 + 1) 0 = x11 at *
  go_enter Try.func32, Try.ntmps32
  go_wp2_with ((with_reducible refine gate_dst (N := 6) rfl ?_); refine Kd.event_run rfl (exec_append rfl rfl rfl HRUN.out) ?_)
  generalize (w1.setCell ⟨g, 10, none⟩ (.int .u8 0)).setCell ⟨g, 10 + 1, none⟩ (.int .u8 0) = W2 at *
  obtain ⟨A2, c2, hv, -, hC⟩ := HO.out.reads (by simp; omega)
  rw [List.length_set, List.length_set] at hv
  injection hv with e1 e2 e3
  subst e1 e3
  have HI := refInet_any (some ⟨g, 0, none⟩) cc (zero2 xs 10) W2 hC (zero2_bytes HX.out.1 _) (by rw [zero2_len]; have := HX.out.2.1; omega)
  rw [zero2_len] at HI
  refine HI.mono ?_
  rintro e w3 ⟨rfl, rfl⟩
  go_wp2_with fail
  go_ret
  exact ⟨rfl, HB.out⟩
theorem put2_any (v : Value) (xs : List Int) (n : Int) (w W : World) (h : RB w W v xs) (hl : xs.length ≤ 140737488351232) :
    Calls Try.prog 31 #[v, .int .i64 n] W fun e w' => ∃ v1, e = .returned v1 ∧ RB w w' v1 (xs ++ be2 n) := by
  obtain ⟨v1, w1, hrun, hR⟩ := h.lit (be2 n) (by simp [be2]; omega)
  have HRUN := Aside0.mk hrun
  have HR := Aside0.mk hR
  have h1 : IntKind.u8.wrap (n / 256) = n / 256 % 256 := wrap_u8 _
  have h2 : IntKind.u8.wrap n = n % 256 := wrap_u8 _
  clear h hl hrun hR
  go_enter Try.func31, Try.ntmps31
  go_wp2_with ((with_reducible refine gate_dst (N := 12) rfl ?_); refine Kd.event_run rfl (exec_append rfl rfl rfl HRUN.out) ?_)
  go_ret
  exact ⟨v1, rfl, HR.out⟩
end Go.Proofs.Ytjidoedlmpjmnaa.Hdr
namespace Go.Proofs.Ytjidoedlmpjmnaa.Hdr
open Go.RowKit Go.Proofs.Ytjidoedlmpjmnaa.Cur Go.Proofs.Ytjidoedlmpjmnaa.Own Go.Proofs.Ytjidoedlmpjmnaa.StepX Go.Proofs.Ytjidoedlmpjmnaa.AddrW Go.Proofs.Ytjidoedlmpjmnaa.Segs Go.Proofs.Ytjidoedlmpjmnaa.Mem Go.Proofs.Ytjidoedlmpjmnaa.AddrEq Go.Proofs.Ytjidoedlmpjmnaa.Bits Go.Proofs.Ytjidoedlmpjmnaa.Help Go.Proofs.YtjidoedlmpjmnaaW.PrintWords Go.Proofs.YtjidoedlmpjmnaaW.PrintLast Go.Proofs.YtjidoedlmpjmnaaW.PrintMore
set_option linter.unusedVariables false
set_option linter.unusedSimpArgs false
theorem or_i64 (i : Nat) {x y : Int} (h0 : 0 ≤ x) (hx : x % 2 ^ i = 0) (h1 : x < 4611686018427387904) (h2 : 0 ≤ y) (hy : y < 2 ^ i) (h3 : y < 4611686018427387904) : Go.bits .or .i64 x y = x + y := by
  have h := or_join_u64 i (x := x) (y := y) h0 hx (by omega) h2 hy (by omega)
  unfold Go.bits at h ⊢
  rw [wrap_u64] at h
  dsimp only at h ⊢
  have hN : ∀ N : Nat, N < 18446744073709551616 → ((N : Int) % 18446744073709551616 = x + y) → IntKind.i64.wrap (N : Int) = x + y := fun N hN e => by
    rw [IntWalk.i64_in _ (by omega)]; omega
  exact hN _ (BitVec.isLt _) h
theorem wrap64_in {n : Int} (h : -9223372036854775808 ≤ n ∧ n ≤ 9223372036854775807) : IntKind.i64.wrap n = n := IntWalk.i64_in _ (by omega)
theorem val_any (n : Int) (w : World) (h0 : 0 ≤ n) (h1 : n < 18446744073709551616) : Calls Try.prog 24 #[.int .i64 n] w fun e w' => e = .returned (.agg #[.int .u64 n, .slice none 0 0]) ∧ Below w.heap.size w w' := by
  have hw : IntKind.u64.wrap n = n := wrap_u64_id h0 h1
  go_enter Try.func24, Try.ntmps24
  go_wp2_with fail
  exact bodyPost_ret (v := .agg #[.int .u64 n, .slice none 0 0]) (by simp [results, Try.results24, go_sem]) rfl ⟨rfl, below_alloc (Below.refl _ _) _⟩
theorem num_any (n : Int) (w : World) : Calls Try.prog 45 #[.int .i64 n] w fun e w' => e = .returned (.agg #[.int .i64 0, .int .i64 n]) ∧ Below w.heap.size w w' := by
  go_enter Try.func45, Try.ntmps45
  go_wp2_with fail
  exact bodyPost_ret (v := .agg #[.int .i64 0, .int .i64 n]) (by simp [results, Try.results45, go_sem]) rfl ⟨rfl, below_alloc (Below.refl _ _) _⟩
theorem some_any (n : Int) (w : World) : Calls Try.prog 46 #[.int .i64 n] w fun e w' => e = .returned (.agg #[.int .i64 1, .int .i64 n]) ∧ Below w.heap.size w w' := by
  go_enter Try.func46, Try.ntmps46
  go_wp2_with fail
  exact bodyPost_ret (v := .agg #[.int .i64 1, .int .i64 n]) (by simp [results, Try.results46, go_sem]) rfl ⟨rfl, below_alloc (Below.refl _ _) _⟩
def ops6 : List (Int × Int) := [(0, 4), (0, 2), (0, 1), (0, 1), (1, 16), (1, 16)]
def ops4 : List (Int × Int) := [(0, 1), (0, 1), (0, 2), (0, 2), (0, 2), (0, 1), (0, 1), (0, 2), (1, 4), (1, 4)]
def ops6C : Array Value := #[.int .i64 0, .int .i64 4, .int .i64 0, .int .i64 2, .int .i64 0, .int .i64 1, .int .i64 0, .int .i64 1, .int .i64 1, .int .i64 16, .int .i64 1, .int .i64 16]
def ops4C : Array Value := #[.int .i64 0, .int .i64 1, .int .i64 0, .int .i64 1, .int .i64 0, .int .i64 2, .int .i64 0, .int .i64 2, .int .i64 0, .int .i64 2, .int .i64 0, .int .i64 1, .int .i64 0, .int .i64 1, .int .i64 0, .int .i64 2, .int .i64 1, .int .i64 4, .int .i64 1, .int .i64 4]
def OpsR (cs : Array Value) (n : Nat) (w : World) (e : Ending) (w' : World) : Prop := ∃ g, e = .returned (.slice (some ⟨g, 0, none⟩) n n) ∧ w'.heap[g]? = some (.cells cs 68 (0, 0)) ∧ Below w.heap.size w w'
theorem dOK (W : World) (a b : Int) : dO.K W (a, b) [.int .i64 a, .int .i64 b] := ⟨[_], [_], rfl, rfl, rfl⟩
/-- A literal list of pieces, read. -/
theorem ops_lit {W : World} {q : Nat} (l : List (Int × Int)) (hl : l.length ≤ 1000) (hq : W.heap[q]? = some (.cells ((l.map fun o => [Value.int .i64 o.1, Value.int .i64 o.2]).flatten).toArray 68 (0, 0))) : dO.C W (some ⟨q, 0, none⟩) l.length l := by
  have h := lit_C (d := dO) (w := W) (g := q) (t := 68) (l.map fun o => (o, [Value.int .i64 o.1, Value.int .i64 o.2])) (fun p hp => by
    obtain ⟨o, _, rfl⟩ := List.mem_map.1 hp
    exact dOK W o.1 o.2) (by rw [hq]; simp [List.map_map, Function.comp_def]) (by simp; omega)
  simpa [List.map_map, Function.comp_def] using h
theorem six_any (w : World) : Calls Try.prog 26 #[] w (OpsR ops6C 6 w) := by
  have HP : Aside0 (∀ e w', OpsR ops6C 6 w e w' = ∃ g, e = .returned (.slice (some ⟨g, 0, none⟩) 6 6) ∧ w'.heap[g]? = some (.cells ops6C 68 (0, 0)) ∧ Below w.heap.size w w') := ⟨fun _ _ => rfl⟩
  go_enter Try.func26, Try.ntmps26
  go_wp2_with fail
  refine (num_any 4 _).mono ?_
  rintro e w1 ⟨rfl, hB1⟩
  go_wp2_with fail
  refine (num_any 2 _).mono ?_
  rintro e w2 ⟨rfl, hB⟩
  replace hB1 := below_step hB1 hB
  clear hB
  go_wp2_with fail
  refine (num_any 1 _).mono ?_
  rintro e w3 ⟨rfl, hB⟩
  replace hB1 := below_step hB1 hB
  clear hB
  go_wp2_with fail
  refine (num_any 1 _).mono ?_
  rintro e w4 ⟨rfl, hB⟩
  replace hB1 := below_step hB1 hB
  clear hB
  go_wp2_with fail
  refine (some_any 16 _).mono ?_
  rintro e w5 ⟨rfl, hB⟩
  replace hB1 := below_step hB1 hB
  clear hB
  go_wp2_with fail
  refine (some_any 16 _).mono ?_
  rintro e w6 ⟨rfl, hB⟩
  have HB := Aside0.mk (below_step hB1 hB)
  clear hB hB1
  go_wp2_with fail
  go_ret
  exact ⟨w6.heap.size, rfl, blk_new w6 _, below_alloc HB.out _⟩
theorem four_any (w : World) : Calls Try.prog 27 #[] w (OpsR ops4C 10 w) := by
  have HP : Aside0 (∀ e w', OpsR ops4C 10 w e w' = ∃ g, e = .returned (.slice (some ⟨g, 0, none⟩) 10 10) ∧ w'.heap[g]? = some (.cells ops4C 68 (0, 0)) ∧ Below w.heap.size w w') := ⟨fun _ _ => rfl⟩
  have HB := Aside0.mk (Below.refl w.heap.size w)
  go_enter Try.func27, Try.ntmps27
  go_wp2_with fail
  refine (num_any 1 _).mono ?_
  rintro e w1 ⟨rfl, hB⟩
  replace HB := Aside0.mk (below_step HB.out hB)
  clear hB
  go_wp2_with fail
  refine (num_any 1 _).mono ?_
  rintro e w1 ⟨rfl, hB⟩
  replace HB := Aside0.mk (below_step HB.out hB)
  clear hB
  go_wp2_with fail
  refine (num_any 2 _).mono ?_
  rintro e w1 ⟨rfl, hB⟩
  replace HB := Aside0.mk (below_step HB.out hB)
  clear hB
  go_wp2_with fail
  refine (num_any 2 _).mono ?_
  rintro e w1 ⟨rfl, hB⟩
  replace HB := Aside0.mk (below_step HB.out hB)
  clear hB
  go_wp2_with fail
  refine (num_any 2 _).mono ?_
  rintro e w1 ⟨rfl, hB⟩
  replace HB := Aside0.mk (below_step HB.out hB)
  clear hB
  go_wp2_with fail
  refine (num_any 1 _).mono ?_
  rintro e w1 ⟨rfl, hB⟩
  replace HB := Aside0.mk (below_step HB.out hB)
  clear hB
  go_wp2_with fail
  refine (num_any 1 _).mono ?_
  rintro e w1 ⟨rfl, hB⟩
  replace HB := Aside0.mk (below_step HB.out hB)
  clear hB
  go_wp2_with fail
  refine (num_any 2 _).mono ?_
  rintro e w1 ⟨rfl, hB⟩
  replace HB := Aside0.mk (below_step HB.out hB)
  clear hB
  go_wp2_with fail
  refine (some_any 4 _).mono ?_
  rintro e w1 ⟨rfl, hB⟩
  replace HB := Aside0.mk (below_step HB.out hB)
  clear hB
  go_wp2_with fail
  refine (some_any 4 _).mono ?_
  rintro e w1 ⟨rfl, hB⟩
  replace HB := Aside0.mk (below_step HB.out hB)
  clear hB
  go_wp2_with fail
  go_ret
  exact ⟨w1.heap.size, rfl, blk_new w1 _, below_alloc HB.out _⟩
/-! ### what is laid -/
theorem lay_n4 {n : Int} (bs : List Int) : CurP.layB 0 4 n bs = [n / 16777216 % 256, n / 65536 % 256, n / 256 % 256, n % 256] := by
  unfold CurP.layB; rw [if_pos rfl]
  show CurP.numB 4 n = _
  simp [CurP.numB]
  omega
theorem lay_n2' {n : Int} (bs : List Int) : CurP.layB 0 2 n bs = be2 n := by
  unfold CurP.layB; rw [if_pos rfl]
  show CurP.numB 2 n = _
  simp [CurP.numB, be2]
theorem fit1 {n : Int} (h : n < 256) : CurP.fitsP 0 1 n ([] : List Int).length = true := fits_n (by decide) (by decide) (by show n < 256; exact h)
theorem fit2 {n : Int} (h : n < 65536) : CurP.fitsP 0 2 n ([] : List Int).length = true := fits_n (by decide) (by decide) (by rw [show (256 : Int) ^ (2 : Int).toNat = 65536 by decide]; exact h)
theorem fit4 {n : Int} (h : n < 4294967296) : CurP.fitsP 0 4 n ([] : List Int).length = true := fits_n (by decide) (by decide) (by rw [show (256 : Int) ^ (4 : Int).toNat = 4294967296 by decide]; exact h)
def vals6 (h : Pk) : List (Int × List Int) := [(1610612736 + h.ts * 1048576 + h.lb, []), ((h.dl.length : Int), []), (h.p, []), (h.tt, []), (0, h.s.b), (0, h.d.b)]
def vals4 (h : Pk) : List (Int × List Int) := [(64 + (hdN h : Int) / 4, []), (h.ts, []), ((hdN h : Int) + h.dl.length, []), (h.id, []), (dfN h.df, []), (h.tt, []), (h.p, []), (0, []), (0, h.s.b.take 4), (0, h.d.b.take 4)]
theorem lay6 {h : Pk} (H : OkP h) (R : RtP h) (hv : h.v = true) (hd : (h.dl.length : Int) ≤ 65535 - (hdN h : Int)) : CurP.layA (vals6 h) ops6 = (0, pre6 h) := by
  obtain ⟨-, -, ho, hl0, hl1⟩ := R.v6 hv
  have hp := R.p; have ht := R.tt; have hs := R.ts
  have s16 := H.s.l; have d16 := H.d.l
  have e : CurP.layS [] ops6 (vals6 h) = (0, pre6 h) := by
    unfold ops6 vals6
    rw [lay_step (fit4 (by dsimp only; omega)) (by simp) (by decide) (by simp), lay_n4,
      lay_step (fit2 (by dsimp only; omega)) (by simp) (by decide) (by simp), lay_n2',
      lay_step (fits_n (by decide) (by decide) (by show h.p < 256; omega)) (by simp [be2]) (by decide) (by simp), lay_n1 (by omega) (by omega),
      lay_step (fits_n (by decide) (by decide) (by show h.tt < 256; omega)) (by simp [be2]) (by decide) (by simp), lay_n1 (by omega) (by omega),
      lay_step (fits_b (by show (h.s.b.length : Int) = 16; omega)) (by simp [be2]) (by decide) (by simp; omega), lay_bb,
      lay_step (fits_b (by show (h.d.b.length : Int) = 16; omega)) (by simp [be2]; omega) (by decide) (by simp; omega), lay_bb]
    rw [CurP.layS]
    unfold pre6
    have e1 : (1610612736 + h.ts * 1048576 + h.lb) / 16777216 % 256 = 96 + h.ts / 16 := by omega
    have e2 : (1610612736 + h.ts * 1048576 + h.lb) / 65536 % 256 = h.ts % 16 * 16 + h.lb / 65536 := by omega
    have e3 : (1610612736 + h.ts * 1048576 + h.lb) / 256 % 256 = h.lb / 256 % 256 := by omega
    have e4 : (1610612736 + h.ts * 1048576 + h.lb) % 256 = h.lb % 256 := by omega
    rw [e1, e2, e3, e4]
    simp [be2]
  unfold CurP.layA
  rw [if_neg (by decide), if_neg (by simp [vals6, ops6]), e, if_pos rfl]
theorem hdN4 {h : Pk} (R : RtP h) (hv : h.v = false) : hdN h = 20 + h.ol.length ∧ h.ol.length ≤ 40 ∧ h.ol.length % 4 = 0 := by
  obtain ⟨-, -, h1, h2⟩ := R.v4 hv
  exact ⟨by unfold hdN; rw [hv]; rfl, h1, h2⟩
def hd4 (h : Pk) : List Int := [64 + (hdN h : Int) / 4, h.ts] ++ (be2 ((hdN h : Int) + h.dl.length) ++ (be2 h.id ++ (be2 (dfN h.df) ++ ([h.tt, h.p, 0, 0] ++ (h.s.b.take 4 ++ h.d.b.take 4)))))
theorem hd4_ol (h : Pk) : hd4 h ++ h.ol = pre4 h := by unfold hd4 pre4; simp
theorem lay4 {h : Pk} (H : OkP h) (R : RtP h) (hv : h.v = false) (hd : (h.dl.length : Int) ≤ 65535 - (hdN h : Int)) : CurP.layA (vals4 h) ops4 = (0, hd4 h) := by
  obtain ⟨hh, ho, ho4⟩ := hdN4 R hv
  obtain ⟨-, hid, -, -⟩ := R.v4 hv
  have hp := R.p; have ht := R.tt; have hs := R.ts
  have s16 := H.s.l; have d16 := H.d.l
  have hdf : 0 ≤ dfN h.df ∧ dfN h.df < 65536 := by cases h.df <;> decide
  have e : CurP.layS [] ops4 (vals4 h) = (0, hd4 h) := by
    unfold ops4 vals4
    rw [lay_step (fits_n (by decide) (by decide) (by show _ < (256 : Int); omega)) (by simp) (by decide) (by simp), lay_n1 (by omega) (by omega),
      lay_step (fits_n (by decide) (by decide) (by show h.ts < 256; omega)) (by simp) (by decide) (by simp), lay_n1 (by omega) (by omega),
      lay_step (fit2 (by dsimp only; omega)) (by simp) (by decide) (by simp), lay_n2',
      lay_step (fit2 (by dsimp only; omega)) (by simp [be2]) (by decide) (by simp), lay_n2',
      lay_step (fit2 (by dsimp only; omega)) (by simp [be2]) (by decide) (by simp), lay_n2',
      lay_step (fits_n (by decide) (by decide) (by show h.tt < 256; omega)) (by simp [be2]) (by decide) (by simp), lay_n1 (by omega) (by omega),
      lay_step (fits_n (by decide) (by decide) (by show h.p < 256; omega)) (by simp [be2]) (by decide) (by simp), lay_n1 (by omega) (by omega),
      lay_step (fit2 (by decide)) (by simp [be2]) (by decide) (by simp), lay_n2',
      lay_step (fits_b (by simp; omega)) (by simp [be2]) (by decide) (by simp; omega), lay_bb,
      lay_step (fits_b (by simp; omega)) (by simp [be2]; omega) (by decide) (by simp; omega), lay_bb]
    rw [CurP.layS]
    unfold hd4
    simp [be2]
  unfold CurP.layA
  rw [if_neg (by decide), if_neg (by simp [vals4, ops4]), e, if_pos rfl]
end Go.Proofs.Ytjidoedlmpjmnaa.Hdr
namespace Go.Proofs.Ytjidoedlmpjmnaa.Hdr
open Go.RowKit Go.Proofs.Ytjidoedlmpjmnaa.SumsP Go.Proofs.Ytjidoedlmpjmnaa.SumW Go.Proofs.Ytjidoedlmpjmnaa.Cur Go.Proofs.Ytjidoedlmpjmnaa.Own Go.Proofs.Ytjidoedlmpjmnaa.StepX Go.Proofs.Ytjidoedlmpjmnaa.AddrW Go.Proofs.Ytjidoedlmpjmnaa.Segs Go.Proofs.Ytjidoedlmpjmnaa.Mem Go.Proofs.Ytjidoedlmpjmnaa.AddrEq Go.Proofs.Ytjidoedlmpjmnaa.Bits Go.Proofs.Ytjidoedlmpjmnaa.Help Go.Proofs.YtjidoedlmpjmnaaW.PrintWords Go.Proofs.YtjidoedlmpjmnaaW.PrintLast Go.Proofs.YtjidoedlmpjmnaaW.PrintMore
set_option linter.unusedVariables false
set_option linter.unusedSimpArgs false
def psB (h : Pk) : List Int := h.s.b.take (sz h.v) ++ (h.d.b.take (sz h.v) ++ (be2 h.p ++ be2 (h.dl.length : Int)))
def psS (h : Pk) : Int := AddS 0 (psB h)
theorem be2_by (n : Int) : Bytes (be2 n) := fun x hx => by
  unfold be2 at hx
  simp at hx
  omega
theorem allB_by {l : List Int} (h : ∀ x ∈ l, 0 ≤ x ∧ x < 256) : Bytes l := fun x hx => by have := h x hx; omega
theorem psB_by {h : Pk} (H : OkP h) : Bytes (psB h) := Bytes.append ((allB_by H.s.a).take _) (Bytes.append ((allB_by H.d.a).take _) (Bytes.append (be2_by _) (be2_by _)))
section
variable {W : World} {g : Nat} {h : Pk} {q : Pl} {T : TypeId}
theorem scell (H : OkP h) (hb : BH T g h q W) {j : Nat} (hj : j < 16) : W.cell? ⟨g, 2 + j, none⟩ = some (.int .u8 (h.s.b.getD j 0)) := by
  have := seg_cellj hb (i := 1) rfl (hoff H q).2.1 (1 + j) (x := .int .u8 (h.s.b.getD j 0)) (by rw [Nat.add_comm]; simp [hseg, avl, nums, List.getElem?_eq_getElem (show j < h.s.b.length by rw [H.s.l]; exact hj), List.getD_eq_getElem?_getD])
  rwa [show 1 + (1 + j) = 2 + j by omega] at this
theorem dcell (H : OkP h) (hb : BH T g h q W) {j : Nat} (hj : j < 16) : W.cell? ⟨g, 19 + j, none⟩ = some (.int .u8 (h.d.b.getD j 0)) := by
  have := seg_cellj hb (i := 2) rfl (hoff H q).2.2.1 (1 + j) (x := .int .u8 (h.d.b.getD j 0)) (by rw [Nat.add_comm]; simp [hseg, avl, nums, List.getElem?_eq_getElem (show j < h.d.b.length by rw [H.d.l]; exact hj), List.getD_eq_getElem?_getD])
  rwa [show 18 + (1 + j) = 19 + j by omega] at this
theorem take_getD (l : List Int) {n j : Nat} (hj : j < n) : (l.take n).getD j 0 = l.getD j 0 := by
  simp [List.getD_eq_getElem?_getD, List.getElem?_take, hj]
theorem srcC (H : OkP h) (hb : BH T g h q W) {n : Nat} (hn : n ≤ 16) : Kd.C (Kd.int .u8) W (some ⟨g, 2, none⟩) (h.s.b.take n).length (h.s.b.take n) :=
  C_of_block (k := .u8) (off := 2) hb (by simp; omega) (fun j hj => by
    have hjn : j < n := by simp at hj; omega
    have := scell H hb (j := j) (by omega)
    rw [blk_cell hb] at this
    rw [this, take_getD _ hjn])
theorem dstC (H : OkP h) (hb : BH T g h q W) {n : Nat} (hn : n ≤ 16) : Kd.C (Kd.int .u8) W (some ⟨g, 19, none⟩) (h.d.b.take n).length (h.d.b.take n) :=
  C_of_block (k := .u8) (off := 19) hb (by simp; omega) (fun j hj => by
    have hjn : j < n := by simp at hj; omega
    have := dcell H hb (j := j) (by omega)
    rw [blk_cell hb] at this
    rw [this, take_getD _ hjn])
end
set_option maxHeartbeats 4000000 in
theorem Pseudo_any (h : Pk) (q : Pl) (w : World) (H : OkP h) : Calls Try.prog 19 #[.agg (flat (hseg h q))] w fun e w' => e = .returned (.int .u16 (psS h)) ∧ Below w.heap.size w w' := by
  have HM := Aside0.mk ((Mem.nil w).new (.cells (flat (hseg h q)) 28))
  simp only [List.nil_append, List.cons_append] at HM
  have HH := Aside0.mk H
  have c0 := hc0 H (HM.out.get 0 rfl)
  have c35 := hc35 H (HM.out.get 0 rfl)
  have c42 := hc42 H (HM.out.get 0 rfl)
  have ls : (h.s.b.take (sz h.v)).length = sz h.v := by rw [List.length_take, H.s.l]; exact Nat.min_eq_left (sz_le _)
  have ld : (h.d.b.take (sz h.v)).length = sz h.v := by rw [List.length_take, H.d.l]; exact Nat.min_eq_left (sz_le _)
  have bs := (allB_by H.s.a).take (sz h.v)
  have bd := (allB_by H.d.a).take (sz h.v)
  have hps : psS h = AddS (AddS (AddS 0 (h.s.b.take (sz h.v))) (h.d.b.take (sz h.v))) (be2 h.p ++ be2 (h.dl.length : Int)) := by
    have hev : (sz h.v) % 2 = 0 := by cases h.v <;> decide
    unfold psS psB
    rw [AddS_append (by omega) bs bd (by rw [ls]; exact hev), AddS_append (by omega) (Bytes.append bs bd) (Bytes.append (be2_by _) (be2_by _)) (by rw [List.length_append, ls, ld]; omega)]
    rw [List.append_assoc]
  have a1 := AddS_bd (s := 0) (by omega) bs
  have a2 := AddS_bd (s := AddS 0 (h.s.b.take (sz h.v))) a1.1 bd
  have HA1 := Aside0.mk (fun (W : World) (hb : BH 28 w.heap.size h q W) => Add_any 0 (some ⟨w.heap.size, 2, none⟩) 16 (h.s.b.take (sz h.v)) W ⟨by omega, by omega⟩ (srcC H hb (sz_le _)) bs (by rw [ls]; have := sz_le h.v; omega))
  have HA2 := Aside0.mk (fun (W : World) (hb : BH 28 w.heap.size h q W) => Add_any (AddS 0 (h.s.b.take (sz h.v))) (some ⟨w.heap.size, 19, none⟩) 16 (h.d.b.take (sz h.v)) W a1 (dstC H hb (sz_le _)) bd (by rw [ld]; have := sz_le h.v; omega))
  have hl4 : (be2 h.p ++ be2 (h.dl.length : Int)).length = 4 := by simp [be2]
  have HA3 : Aside0 (∀ (W : World) (g : Nat), W.heap[g]? = some (.cells #[.int .u8 (h.p / 256 % 256), .int .u8 (h.p % 256), .int .u8 ((h.dl.length : Int) / 256 % 256), .int .u8 ((h.dl.length : Int) % 256)] 5 (0, 0)) → Calls Try.prog 36 #[.int .u16 (AddS (AddS 0 (h.s.b.take (sz h.v))) (h.d.b.take (sz h.v))), .slice (some ⟨g, 0, none⟩) 4 4] W fun e w' => e = .returned (.int .u16 (AddS (AddS (AddS 0 (h.s.b.take (sz h.v))) (h.d.b.take (sz h.v))) (be2 h.p ++ be2 (h.dl.length : Int)))) ∧ W = w') :=
    ⟨fun W g hb => by
      have := Add_any (AddS (AddS 0 (h.s.b.take (sz h.v))) (h.d.b.take (sz h.v))) (some ⟨g, 0, none⟩) 4 (be2 h.p ++ be2 (h.dl.length : Int)) W a2 (C_lit (xs := be2 h.p ++ be2 (h.dl.length : Int)) hb (by rw [hl4]; decide)) (Bytes.append (be2_by _) (be2_by _)) (by rw [hl4]; decide)
      rw [hl4] at this
      exact this⟩
  clear hl4
  have HPS := Aside0.mk hps
  rw [ls] at HA1
  rw [ld] at HA2
  generalize AddS (AddS (AddS 0 (h.s.b.take (sz h.v))) (h.d.b.take (sz h.v))) (be2 h.p ++ be2 (h.dl.length : Int)) = r3 at *
  generalize AddS (AddS 0 (h.s.b.take (sz h.v))) (h.d.b.take (sz h.v)) = r2 at *
  generalize AddS 0 (h.s.b.take (sz h.v)) = r1 at *
  have h1 : IntKind.u8.wrap (h.p / 256) = h.p / 256 % 256 := wrap_u8 _
  have h2 : IntKind.u8.wrap h.p = h.p % 256 := wrap_u8 _
  have h3 : IntKind.u8.wrap (((h.dl.length : Nat) : Int) / 256) = ((h.dl.length : Nat) : Int) / 256 % 256 := wrap_u8 _
  have h4 : IntKind.u8.wrap ((h.dl.length : Nat) : Int) = ((h.dl.length : Nat) : Int) % 256 := wrap_u8 _
  clear ls ld bs bd a1 a2 hps H
  go_enter Try.func19, Try.ntmps19
  cases hv : h.v
  · rw [hv] at c0 HA1 HA2
    simp only [show sz false = 4 from rfl] at HA1 HA2
    clear hv
    go_wp2_with fail
    refine (HA1.out _ (HM.out.get 0 rfl)).mono ?_
    rintro e w1 ⟨rfl, rfl⟩
    go_wp2_with fail
    refine (HA2.out _ (HM.out.get 0 rfl)).mono ?_
    rintro e w2 ⟨rfl, rfl⟩
    go_wp2_with fail
    refine (HA3.out _ _ (blk_new_at (by simp))).mono ?_
    rintro e w3 ⟨rfl, rfl⟩
    go_wp2_with fail
    go_ret
    exact ⟨by rw [HPS.out]; rfl, (HM.out.alloc _).b⟩
  · rw [hv] at c0 HA1 HA2
    simp only [show sz true = 16 from rfl] at HA1 HA2
    clear hv
    go_wp2_with fail
    refine (HA1.out _ (HM.out.get 0 rfl)).mono ?_
    rintro e w1 ⟨rfl, rfl⟩
    go_wp2_with fail
    refine (HA2.out _ (HM.out.get 0 rfl)).mono ?_
    rintro e w2 ⟨rfl, rfl⟩
    go_wp2_with fail
    refine (HA3.out _ _ (blk_new_at (by simp))).mono ?_
    rintro e w3 ⟨rfl, rfl⟩
    go_wp2_with fail
    go_ret
    exact ⟨by rw [HPS.out]; rfl, (HM.out.alloc _).b⟩
end Go.Proofs.Ytjidoedlmpjmnaa.Hdr
namespace Go.Proofs.Ytjidoedlmpjmnaa.Hdr
open Go.RowKit Go.Proofs.Ytjidoedlmpjmnaa.SumsP Go.Proofs.Ytjidoedlmpjmnaa.SumW Go.Proofs.Ytjidoedlmpjmnaa.Cur Go.Proofs.Ytjidoedlmpjmnaa.Own Go.Proofs.Ytjidoedlmpjmnaa.StepX Go.Proofs.Ytjidoedlmpjmnaa.AddrW Go.Proofs.Ytjidoedlmpjmnaa.Segs Go.Proofs.Ytjidoedlmpjmnaa.Mem Go.Proofs.Ytjidoedlmpjmnaa.AddrEq Go.Proofs.Ytjidoedlmpjmnaa.Bits Go.Proofs.Ytjidoedlmpjmnaa.Help Go.Proofs.YtjidoedlmpjmnaaW.PrintWords Go.Proofs.YtjidoedlmpjmnaaW.PrintLast Go.Proofs.YtjidoedlmpjmnaaW.PrintMore
set_option linter.unusedVariables false
set_option linter.unusedSimpArgs false
set_option maxHeartbeats 4000000 in
theorem refPseudo_any (h : Pk) (q : Pl) (w : World) (H : OkP h) : Calls Try.prog 20 #[.agg (flat (hseg h q))] w fun e w' => e = .returned (.int .u16 (psS h)) ∧ Below w.heap.size w w' := by
  have HM := Aside0.mk ((Mem.nil w).new (.cells (flat (hseg h q)) 27))
  simp only [List.nil_append, List.cons_append] at HM
  have HH := Aside0.mk H
  have c0 := hc0 H (HM.out.get 0 rfl)
  have c42 := hc42 H (HM.out.get 0 rfl)
  have HPS : Aside0 (psS h = AddS 0 (h.s.b.take (sz h.v) ++ (h.d.b.take (sz h.v) ++ (be2 h.p ++ be2 (h.dl.length : Int))))) := ⟨rfl⟩
  have HBY : Aside0 (Bytes (h.s.b.take (sz h.v) ++ (h.d.b.take (sz h.v) ++ (be2 h.p ++ be2 (h.dl.length : Int))))) := ⟨psB_by H⟩
  have HX : Aside0 (∀ W, Below (w.alloc (.cells (flat (hseg h q)) 27)).heap.size (w.alloc (.cells (flat (hseg h q)) 27)) W → Mem w [Blk w.heap.size (.cells (flat (hseg h q)) 27 (0, 0))] W) := ⟨fun W hB => HM.out.below hB⟩
  have HRB := Aside0.mk (RB.nil (w.alloc (.cells (flat (hseg h q)) 27)))
  clear H
  go_enter Try.func20, Try.ntmps20
  cases hv : h.v
  · rw [hv] at c0 HPS HBY
    simp only [show sz false = 4 from rfl] at HPS HBY
    clear hv
    go_wp2_with fail
    generalize w.alloc (.cells (flat (hseg h q)) 27) = X at *
    clear c42
    go_loopg [4, 5] 4 (fun kq v4 v5 w' => ∃ i : Nat, Aside0 (kq + i = 4) ∧ v5 = .int .i64 (i : Int) ∧ Aside0 (RB X w' v4 (h.s.b.take i)))
    case atStart => exact ⟨0, ⟨rfl⟩, rfl, HRB⟩
    case round =>
      obtain ⟨i, HK, rfl, HR⟩ := hrel
      cases gk with
      | zero =>
        obtain rfl : i = 4 := by have := HK.out; omega
        clear HRB HK
        go_wp2_with fail
        go_loopg [4, 6] 4 (fun kq v4 v6 w' => ∃ i : Nat, Aside0 (kq + i = 4) ∧ v6 = .int .i64 (i : Int) ∧ Aside0 (RB X w' v4 (h.s.b.take 4 ++ h.d.b.take i)))
        case atStart => exact ⟨0, ⟨rfl⟩, rfl, ⟨by rw [List.take_zero, List.append_nil]; exact HR.out⟩⟩
        case round =>
          obtain ⟨i, HK, rfl, HR⟩ := hrel
          cases gk with
          | zero =>
            obtain rfl : i = 4 := by have := HK.out; omega
            have c35 := hc35 HH.out ((HX.out _ HR.out.l).get 0 rfl)
            go_wp2_with fail
            clear c35
            refine (put2_any _ _ (h.p) X _ HR.out (by simp; omega)).mono ?_
            rintro e W8 ⟨v8, rfl, hRB⟩
            have c42 := hc42 HH.out ((HX.out _ hRB.l).get 0 rfl)
            replace HR := Aside0.mk hRB
            clear hRB
            go_wp2_with fail
            refine (put2_any _ _ ((h.dl.length : Nat) : Int) X _ HR.out (by simp [be2]; omega)).mono ?_
            rintro e W9 ⟨v9, rfl, hRB⟩
            obtain ⟨A9, c9, rfl, hc9, hC9⟩ := hRB.o.reads hRB.o.len63
            have he : h.s.b.take 4 ++ h.d.b.take 4 ++ be2 h.p ++ be2 ((h.dl.length : Nat) : Int) = h.s.b.take 4 ++ (h.d.b.take 4 ++ (be2 h.p ++ be2 ((h.dl.length : Nat) : Int))) := by simp
            rw [he] at hC9 ⊢
            have HA := Aside0.mk (refAdd_any 0 A9 c9 _ W9 ⟨by omega, by omega⟩ hC9 HBY.out (by simp [be2]; omega))
            have HB := Aside0.mk (HX.out _ hRB.l).b
            clear hRB hc9 hC9 he c42
            rw [← HPS.out] at HA
            generalize (h.s.b.take 4 ++ (h.d.b.take 4 ++ (be2 h.p ++ be2 ((h.dl.length : Nat) : Int)))).length = ln at *
            go_wp2_with fail
            refine HA.out.mono ?_
            rintro e w3 ⟨rfl, rfl⟩
            go_wp2_with fail
            go_ret
            exact ⟨rfl, HB.out⟩
          | succ kq =>
            have hi : i < 4 := by have := HK.out; omega
            have hi2 : ((i : Nat) : Int) < 4 := by omega
            have hi16 : ((i : Nat) : Int) < 16 := by omega
            have cd := dcell HH.out ((HX.out _ HR.out.l).get 0 rfl) (j := i) (by omega)
            obtain ⟨v8, W8, hrun, hRB⟩ := HR.out.lit [h.d.b.getD i 0] (by simp; omega)
            rw [List.append_assoc, ← Cur.take_snoc (by rw [HH.out.d.l]; omega)] at hRB
            have HRUN := Aside0.mk hrun
            have HR2 := Aside0.mk hRB
            clear hrun hRB
            generalize h.d.b.getD i 0 = x at *
            go_wp2_with ((with_reducible refine gate_dst (N := 34) rfl ?_); refine Kd.event_run rfl (exec_append rfl rfl rfl HRUN.out) ?_)
            go_roundg kq
            case measure => omega
            case rel => exact ⟨i + 1, ⟨by have := HK.out; omega⟩, by first | rfl | (simp; first | omega | (unfold wrap64; omega)), HR2⟩
      | succ kq =>
        have hi : i < 4 := by have := HK.out; omega
        have hi2 : ((i : Nat) : Int) < 4 := by omega
        have hi16 : ((i : Nat) : Int) < 16 := by omega
        have cd := scell HH.out ((HX.out _ HR.out.l).get 0 rfl) (j := i) (by omega)
        obtain ⟨v8, W8, hrun, hRB⟩ := HR.out.lit [h.s.b.getD i 0] (by simp; omega)
        rw [← Cur.take_snoc (by rw [HH.out.s.l]; omega)] at hRB
        have HRUN := Aside0.mk hrun
        have HR2 := Aside0.mk hRB
        clear hrun hRB
        generalize h.s.b.getD i 0 = x at *
        go_wp2_with ((with_reducible refine gate_dst (N := 21) rfl ?_); refine Kd.event_run rfl (exec_append rfl rfl rfl HRUN.out) ?_)
        go_roundg kq
        case measure => omega
        case rel => exact ⟨i + 1, ⟨by have := HK.out; omega⟩, by first | rfl | (simp; first | omega | (unfold wrap64; omega)), HR2⟩
  · rw [hv] at c0 HPS HBY
    simp only [show sz true = 16 from rfl] at HPS HBY
    clear hv
    go_wp2_with fail
    generalize w.alloc (.cells (flat (hseg h q)) 27) = X at *
    clear c42
    go_loopg [4, 5] 16 (fun kq v4 v5 w' => ∃ i : Nat, Aside0 (kq + i = 16) ∧ v5 = .int .i64 (i : Int) ∧ Aside0 (RB X w' v4 (h.s.b.take i)))
    case atStart => exact ⟨0, ⟨rfl⟩, rfl, HRB⟩
    case round =>
      obtain ⟨i, HK, rfl, HR⟩ := hrel
      cases gk with
      | zero =>
        obtain rfl : i = 16 := by have := HK.out; omega
        clear HRB HK
        go_wp2_with fail
        go_loopg [4, 6] 16 (fun kq v4 v6 w' => ∃ i : Nat, Aside0 (kq + i = 16) ∧ v6 = .int .i64 (i : Int) ∧ Aside0 (RB X w' v4 (h.s.b.take 16 ++ h.d.b.take i)))
        case atStart => exact ⟨0, ⟨rfl⟩, rfl, ⟨by rw [List.take_zero, List.append_nil]; exact HR.out⟩⟩
        case round =>
          obtain ⟨i, HK, rfl, HR⟩ := hrel
          cases gk with
          | zero =>
            obtain rfl : i = 16 := by have := HK.out; omega
            have c35 := hc35 HH.out ((HX.out _ HR.out.l).get 0 rfl)
            go_wp2_with fail
            clear c35
            refine (put2_any _ _ (h.p) X _ HR.out (by simp; omega)).mono ?_
            rintro e W8 ⟨v8, rfl, hRB⟩
            have c42 := hc42 HH.out ((HX.out _ hRB.l).get 0 rfl)
            replace HR := Aside0.mk hRB
            clear hRB
            go_wp2_with fail
            refine (put2_any _ _ ((h.dl.length : Nat) : Int) X _ HR.out (by simp [be2]; omega)).mono ?_
            rintro e W9 ⟨v9, rfl, hRB⟩
            obtain ⟨A9, c9, rfl, hc9, hC9⟩ := hRB.o.reads hRB.o.len63
            have he : h.s.b.take 16 ++ h.d.b.take 16 ++ be2 h.p ++ be2 ((h.dl.length : Nat) : Int) = h.s.b.take 16 ++ (h.d.b.take 16 ++ (be2 h.p ++ be2 ((h.dl.length : Nat) : Int))) := by simp
            rw [he] at hC9 ⊢
            have HA := Aside0.mk (refAdd_any 0 A9 c9 _ W9 ⟨by omega, by omega⟩ hC9 HBY.out (by simp [be2]; omega))
            have HB := Aside0.mk (HX.out _ hRB.l).b
            clear hRB hc9 hC9 he c42
            rw [← HPS.out] at HA
            generalize (h.s.b.take 16 ++ (h.d.b.take 16 ++ (be2 h.p ++ be2 ((h.dl.length : Nat) : Int)))).length = ln at *
            go_wp2_with fail
            refine HA.out.mono ?_
            rintro e w3 ⟨rfl, rfl⟩
            go_wp2_with fail
            go_ret
            exact ⟨rfl, HB.out⟩
          | succ kq =>
            have hi : i < 16 := by have := HK.out; omega
            have hi2 : ((i : Nat) : Int) < 16 := by omega
            have hi16 : ((i : Nat) : Int) < 16 := by omega
            have cd := dcell HH.out ((HX.out _ HR.out.l).get 0 rfl) (j := i) (by omega)
            obtain ⟨v8, W8, hrun, hRB⟩ := HR.out.lit [h.d.b.getD i 0] (by simp; omega)
            rw [List.append_assoc, ← Cur.take_snoc (by rw [HH.out.d.l]; omega)] at hRB
            have HRUN := Aside0.mk hrun
            have HR2 := Aside0.mk hRB
            clear hrun hRB
            generalize h.d.b.getD i 0 = x at *
            go_wp2_with ((with_reducible refine gate_dst (N := 34) rfl ?_); refine Kd.event_run rfl (exec_append rfl rfl rfl HRUN.out) ?_)
            go_roundg kq
            case measure => omega
            case rel => exact ⟨i + 1, ⟨by have := HK.out; omega⟩, by first | rfl | (simp; first | omega | (unfold wrap64; omega)), HR2⟩
      | succ kq =>
        have hi : i < 16 := by have := HK.out; omega
        have hi2 : ((i : Nat) : Int) < 16 := by omega
        have hi16 : ((i : Nat) : Int) < 16 := by omega
        have cd := scell HH.out ((HX.out _ HR.out.l).get 0 rfl) (j := i) (by omega)
        obtain ⟨v8, W8, hrun, hRB⟩ := HR.out.lit [h.s.b.getD i 0] (by simp; omega)
        rw [← Cur.take_snoc (by rw [HH.out.s.l]; omega)] at hRB
        have HRUN := Aside0.mk hrun
        have HR2 := Aside0.mk hRB
        clear hrun hRB
        generalize h.s.b.getD i 0 = x at *
        go_wp2_with ((with_reducible refine gate_dst (N := 21) rfl ?_); refine Kd.event_run rfl (exec_append rfl rfl rfl HRUN.out) ?_)
        go_roundg kq
        case measure => omega
        case rel => exact ⟨i + 1, ⟨by have := HK.out; omega⟩, by first | rfl | (simp; first | omega | (unfold wrap64; omega)), HR2⟩
end Go.Proofs.Ytjidoedlmpjmnaa.Hdr
