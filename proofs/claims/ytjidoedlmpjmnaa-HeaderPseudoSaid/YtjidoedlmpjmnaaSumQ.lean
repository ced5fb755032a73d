/- SumQ: SumsP, SumW. -/
import Derived.Test.YtjidoedlmpjmnaaBits
import Derived.Test.YtjidoedlmpjmnaaProg
import Derived.Test.YtjidoedlmpjmnaaBase
import Derived.Test.YtjidoedlmpjmnaaCurQ
import Derived.Test.YtjidoedlmpjmnaaCurT
namespace Go.Proofs.Ytjidoedlmpjmnaa.SumsP
open Go.RowKit Go.Proofs.Ytjidoedlmpjmnaa.Bits
set_option linter.unusedVariables false

def Bytes (l : List Int) : Prop := ∀ x ∈ l, 0 ≤ x ∧ x ≤ 255
/-- The words' sum (the first byte is a word's high one, or its low one). -/
def ws : Bool → List Int → Int
  | _, [] => 0
  | true, c :: t => c * 256 + ws false t
  | false, c :: t => c + ws true t
/-- Going round at 65535. -/
def fs (n : Int) : Int := if n = 0 then 0 else (n - 1) % 65535 + 1
def AddS (s : Int) (l : List Int) : Int := fs (s + ws true l)
def InetS (l : List Int) : Int := 65535 - AddS 0 l

theorem Bytes.cons {c : Int} {t : List Int} (h : Bytes (c :: t)) : (0 ≤ c ∧ c ≤ 255) ∧ Bytes t := ⟨h c (by simp), fun x hx => h x (by simp [hx])⟩
theorem Bytes.append {a b : List Int} (ha : Bytes a) (hb : Bytes b) : Bytes (a ++ b) := fun x hx => by
  rcases List.mem_append.1 hx with h | h
  · exact ha x h
  · exact hb x h
theorem Bytes.drop {l : List Int} (h : Bytes l) (n : Nat) : Bytes (l.drop n) := fun x hx => h x (List.mem_of_mem_drop hx)
theorem Bytes.take {l : List Int} (h : Bytes l) (n : Nat) : Bytes (l.take n) := fun x hx => h x (List.mem_of_mem_take hx)
theorem Bytes.get {l : List Int} (h : Bytes l) (i : Nat) : 0 ≤ l.getD i 0 ∧ l.getD i 0 ≤ 255 := by
  rw [List.getD_eq_getElem?_getD]
  rcases Nat.lt_or_ge i l.length with hi | hi
  · rw [List.getElem?_eq_getElem hi]; exact h _ (List.getElem_mem hi)
  · rw [List.getElem?_eq_none hi]; simp
theorem ws_bd (l : List Int) (h : Bytes l) : ∀ b, 0 ≤ ws b l ∧ ws b l ≤ 65280 * l.length := by
  induction l with
  | nil => intro b; cases b <;> simp [ws]
  | cons c t ih =>
    intro b
    have ⟨hc, ht⟩ := h.cons
    have h1 := ih ht true
    have h2 := ih ht false
    cases b <;> simp only [ws, List.length_cons] <;> constructor <;> omega
theorem fs_bd (n : Int) (h : 0 ≤ n) : 0 ≤ fs n ∧ fs n ≤ 65535 := by unfold fs; split <;> omega
theorem fs_zero {n : Int} (h : 0 ≤ n) : fs n = 0 ↔ n = 0 := by unfold fs; split <;> omega
theorem fs_mod {n : Int} (h : 0 ≤ n) : fs n % 65535 = n % 65535 := by unfold fs; split <;> omega
theorem fs_small {n : Int} (h0 : 0 ≤ n) (h : n ≤ 65535) : fs n = n := by unfold fs; split <;> omega
theorem fs_round {n : Int} (h : 65535 < n) : fs (n / 65536 + n % 65536) = fs n := by unfold fs; split <;> split <;> omega
/-- What goes round is told by its remainder, and by whether it is nothing. -/
theorem fs_eq {a b : Int} (ha : 0 ≤ a) (hb : 0 ≤ b) (h : a % 65535 = b % 65535) (hz : a = 0 ↔ b = 0) : fs a = fs b := by unfold fs; split <;> split <;> omega
theorem fs_eq_mod {a b : Int} (ha : 0 ≤ a) (hb : 0 ≤ b) (h : fs a = fs b) : a % 65535 = b % 65535 := by rw [← fs_mod ha, ← fs_mod hb, h]
theorem fs_add {a b : Int} (ha : 0 ≤ a) (hb : 0 ≤ b) : fs (fs a + b) = fs (a + b) := by
  have h1 := fs_bd a ha
  have h2 := fs_mod ha
  have h3 := fs_zero ha
  exact fs_eq (by omega) (by omega) (by omega) (by omega)
theorem ws_append_even (a b : List Int) : ∀ e : Bool, a.length % 2 = 0 → ws e (a ++ b) = ws e a + ws e b := by
  have key : ∀ (n : Nat) (a : List Int), a.length = n → ∀ e : Bool, ws e (a ++ b) = ws e a + ws (if n % 2 = 0 then e else !e) b := by
    intro n
    induction n with
    | zero => intro a ha e; obtain rfl := List.eq_nil_of_length_eq_zero ha; cases e <;> simp [ws]
    | succ n ih =>
      intro a ha e
      obtain ⟨c, t, rfl⟩ : ∃ c t, a = c :: t := by cases a with | nil => simp at ha | cons c t => exact ⟨c, t, rfl⟩
      have ht : t.length = n := by simpa using ha
      have hn : ((n + 1) % 2 = 0) ↔ ¬ (n % 2 = 0) := by omega
      cases e <;> simp only [List.cons_append, ws, ih t ht] <;> by_cases h : n % 2 = 0 <;> simp [h, hn] <;> omega
  intro e h
  rw [key a.length a rfl e, if_pos h]
theorem AddS_append {s : Int} {a b : List Int} (hs : 0 ≤ s) (ha : Bytes a) (hb : Bytes b) (h : a.length % 2 = 0) : AddS (AddS s a) b = AddS s (a ++ b) := by
  unfold AddS
  rw [ws_append_even a b true h, fs_add (by have := (ws_bd a ha true).1; omega) (ws_bd b hb true).1]
  congr 1; omega
theorem AddS_bd {s : Int} {l : List Int} (hs : 0 ≤ s) (hl : Bytes l) : 0 ≤ AddS s l ∧ AddS s l ≤ 65535 := fs_bd _ (by have := (ws_bd l hl true).1; omega)
/-- One byte is another one: the words' sum turns by so much. -/
theorem ws_set (l : List Int) : ∀ (b : Bool) (i : Nat) (x : Int), i < l.length → ws b (l.set i x) = ws b l + (x - l.getD i 0) * (if (i % 2 = 0) = (b = true) then 256 else 1) := by
  induction l with
  | nil => intro b i x h; simp at h
  | cons c t ih =>
    intro b i x h
    cases i with
    | zero => cases b <;> simp [ws] <;> omega
    | succ i =>
      have hi : i < t.length := by simpa using h
      have h1 := ih true i x hi
      have h2 := ih false i x hi
      have e : ((i + 1) % 2 = 0) ↔ ¬ (i % 2 = 0) := by omega
      cases b <;> simp only [List.set_cons_succ, ws, h1, h2, List.getD_cons_succ] <;> by_cases hp : i % 2 = 0 <;> simp [hp, e] <;> omega

theorem ws_set_hi (l : List Int) {i : Nat} (x : Int) (h : i < l.length) (hi : i % 2 = 0) : ws true (l.set i x) = ws true l + (x - l.getD i 0) * 256 := by
  rw [ws_set l true i x h, if_pos (by simp [hi])]
theorem ws_set_lo (l : List Int) {i : Nat} (x : Int) (h : i < l.length) (hi : i % 2 = 1) : ws true (l.set i x) = ws true l + (x - l.getD i 0) := by
  rw [ws_set l true i x h, if_neg (by simp [hi]), Int.mul_one]
/-- A word is another one. -/
theorem ws_set_word (l : List Int) {i : Nat} (x y : Int) (h : i + 1 < l.length) (hi : i % 2 = 0) : ws true ((l.set i x).set (i + 1) y) = ws true l - (l.getD i 0 * 256 + l.getD (i + 1) 0) + (x * 256 + y) := by
  rw [ws_set_lo _ _ (by simp; omega) (by omega), ws_set_hi _ _ (by omega) hi]
  have e : (l.set i x).getD (i + 1) 0 = l.getD (i + 1) 0 := by
    simp only [List.getD_eq_getElem?_getD]
    rw [List.getElem?_set_ne (by omega)]
  rw [e]
  omega
/-! the sum by 32 bits -/
def poly : BitVec 32 := 0xedb88320#32
def step1 (r : BitVec 32) : BitVec 32 := (r >>> 1) ^^^ (if r.getLsbD 0 then poly else 0#32)
def stepN : Nat → BitVec 32 → BitVec 32
  | 0, r => r
  | n + 1, r => stepN n (step1 r)
theorem stepN_succ (n : Nat) (r : BitVec 32) : stepN (n + 1) r = step1 (stepN n r) := by
  induction n generalizing r with
  | zero => rfl
  | succ n ih => rw [stepN, ih]; rfl
theorem stepN_add (m n : Nat) (r : BitVec 32) : stepN (m + n) r = stepN n (stepN m r) := by
  induction n with
  | zero => rfl
  | succ n ih => rw [← Nat.add_assoc, stepN_succ, ih, stepN_succ]
theorem xor_lc (a b c : BitVec 32) : a ^^^ (b ^^^ c) = b ^^^ (a ^^^ c) := by rw [← BitVec.xor_assoc, BitVec.xor_comm a b, BitVec.xor_assoc]
theorem xor_back (a b : BitVec 32) : a ^^^ (a ^^^ b) = b := by rw [← BitVec.xor_assoc, BitVec.xor_self, BitVec.zero_xor]
theorem step1_xor (a b : BitVec 32) : step1 (a ^^^ b) = step1 a ^^^ step1 b := by
  unfold step1
  rw [BitVec.ushiftRight_xor_distrib, BitVec.getLsbD_xor]
  generalize a >>> 1 = x
  generalize b >>> 1 = y
  cases a.getLsbD 0 <;> cases b.getLsbD 0 <;> simp only [Bool.false_xor, Bool.true_xor, Bool.not_false, Bool.not_true, Bool.false_eq_true, if_false, if_true, BitVec.xor_zero]
  · rw [BitVec.xor_assoc]
  · rw [BitVec.xor_assoc, BitVec.xor_assoc, BitVec.xor_comm y poly]
  · rw [BitVec.xor_assoc x poly, xor_lc poly y poly, BitVec.xor_self, BitVec.xor_zero]
theorem stepN_xor (n : Nat) (a b : BitVec 32) : stepN n (a ^^^ b) = stepN n a ^^^ stepN n b := by
  induction n generalizing a b with
  | zero => rfl
  | succ n ih => simp only [stepN, step1_xor, ih]
theorem step1_zero : step1 0#32 = 0#32 := by decide
theorem stepN_zero (n : Nat) : stepN n 0#32 = 0#32 := by
  induction n with
  | zero => rfl
  | succ n ih => rw [stepN_succ, ih, step1_zero]
theorem step1_inj0 {r : BitVec 32} (h : step1 r = 0#32) : r = 0#32 := by
  unfold step1 at h
  have h31 : (r >>> 1).getLsbD 31 = false := by rw [BitVec.getLsbD_ushiftRight]; exact BitVec.getLsbD_of_ge _ _ (by decide)
  cases h0 : r.getLsbD 0 with
  | true =>
    exfalso
    have := congrArg (fun x => BitVec.getLsbD x 31) h
    simp only [h0, if_true, BitVec.getLsbD_xor, h31] at this
    exact absurd this (by decide)
  | false =>
    rw [h0] at h
    simp only [Bool.false_eq_true, if_false, BitVec.xor_zero] at h
    apply BitVec.eq_of_getLsbD_eq
    intro i hi
    cases i with
    | zero => simpa using h0
    | succ i =>
      have := congrArg (fun x => BitVec.getLsbD x i) h
      rw [BitVec.getLsbD_ushiftRight, Nat.add_comm] at this
      simpa using this
theorem stepN_inj0 {n : Nat} {r : BitVec 32} (h : stepN n r = 0#32) : r = 0#32 := by
  induction n with
  | zero => exact h
  | succ n ih => rw [stepN_succ] at h; exact ih (step1_inj0 h)
/-- A bit as a register. -/
def bb (b : Bool) : BitVec 32 := if b then 1#32 else 0#32
/-- The lowest bit apart: the others wait. -/
theorem step1_low (r c : BitVec 32) : step1 (r ^^^ c) = step1 (r ^^^ bb (c.getLsbD 0)) ^^^ (c >>> 1) := by
  have e : c = bb (c.getLsbD 0) ^^^ ((c >>> 1) <<< 1) := by
    apply BitVec.eq_of_getLsbD_eq
    intro i hi
    rw [BitVec.getLsbD_xor, BitVec.getLsbD_shiftLeft, BitVec.getLsbD_ushiftRight]
    cases i with
    | zero => cases c.getLsbD 0 <;> simp [bb]
    | succ i => cases c.getLsbD 0 <;> simp [bb, hi, Nat.add_comm 1 i]
  have e2 : step1 ((c >>> 1) <<< 1) = c >>> 1 := by
    unfold step1
    have : ((c >>> 1) <<< 1).getLsbD 0 = false := by simp
    rw [this]
    apply BitVec.eq_of_getLsbD_eq
    intro i hi
    simp only [Bool.false_eq_true, if_false, BitVec.xor_zero, BitVec.getLsbD_ushiftRight, BitVec.getLsbD_shiftLeft]
    rcases Nat.lt_or_ge i 31 with h | h
    · simp; omega
    · have : i = 31 := by omega
      subst this; simp
  conv => lhs; rw [e]
  rw [← BitVec.xor_assoc, step1_xor, e2]
/-- The bits' own steps: bits f(0) .. f(n-1) go in. -/
def feed (r : BitVec 32) (f : Nat → Bool) : Nat → BitVec 32
  | 0 => r
  | n + 1 => step1 (feed r f n ^^^ bb (f n))
theorem feed_byte (r c : BitVec 32) (n : Nat) : stepN n (r ^^^ c) = feed r (fun i => c.getLsbD i) n ^^^ (c >>> n) := by
  induction n with
  | zero => simp [stepN, feed]
  | succ n ih =>
    rw [stepN_succ, ih, step1_low, feed]
    congr 1
theorem feed_congr {r : BitVec 32} {f g : Nat → Bool} {n : Nat} (h : ∀ i, i < n → f i = g i) : feed r f n = feed r g n := by
  induction n with
  | zero => rfl
  | succ n ih => rw [feed, feed, ih (fun i hi => h i (by omega)), h n (by omega)]
theorem feed_add (r : BitVec 32) (f : Nat → Bool) (m n : Nat) : feed r f (m + n) = feed (feed r f m) (fun i => f (m + i)) n := by
  induction n with
  | zero => rfl
  | succ n ih => rw [← Nat.add_assoc, feed, ih, feed]
/-- Two that differ: their difference goes its own way. -/
theorem bb_xor (a b : Bool) : bb (a ^^ b) = bb a ^^^ bb b := by cases a <;> cases b <;> simp [bb]
theorem feed_xor (r s : BitVec 32) (f g : Nat → Bool) (n : Nat) : feed r f n ^^^ feed s g n = feed (r ^^^ s) (fun i => f i ^^ g i) n := by
  induction n with
  | zero => rfl
  | succ n ih =>
    rw [feed, feed, feed, ← ih, ← step1_xor, bb_xor]
    congr 1
    rw [BitVec.xor_assoc, BitVec.xor_assoc, xor_lc (bb (f n))]
theorem feed_none (r : BitVec 32) (f : Nat → Bool) (n : Nat) (h : ∀ i, i < n → f i = false) : feed r f n = stepN n r := by
  induction n with
  | zero => rfl
  | succ n ih => rw [feed, ih (fun i hi => h i (by omega)), h n (by omega), stepN_succ]; simp [bb]
/-- Bits as a register. -/
def wd (f : Nat → Bool) : Nat → BitVec 32
  | 0 => 0#32
  | n + 1 => wd f n ||| (bb (f n) <<< n)
theorem bb_bit (b : Bool) (i : Nat) : (bb b).getLsbD i = (b && decide (i = 0)) := by
  cases b
  · simp [bb]
  · simp [bb]
theorem wd_bit (f : Nat → Bool) : ∀ n i, i < 32 → (wd f n).getLsbD i = (decide (i < n) && f i) := by
  intro n
  induction n with
  | zero => intro i _; simp [wd]
  | succ n ih =>
    intro i hi
    rw [wd, BitVec.getLsbD_or, ih i hi, BitVec.getLsbD_shiftLeft, bb_bit]
    rcases Nat.lt_trichotomy i n with h | h | h
    · simp [h, show i < n + 1 by omega]
    · subst h; simp [hi]
    · simp [hi, show ¬ i < n by omega, show ¬ i < n + 1 by omega, show ¬ i - n = 0 by omega]
/-- Up to 32 bits, some of which are set, leave something. -/
theorem feed_burst (e : Nat → Bool) (at_ n : Nat) (hz : ∀ j, j < at_ ∨ at_ + 32 ≤ j → e j = false) (hs : ∃ j, j < n ∧ e j = true) : feed 0#32 e n ≠ 0#32 := by
  -- the window's bits as a register
  obtain ⟨j, hj, hej⟩ := hs
  have hja : at_ ≤ j ∧ j < at_ + 32 := by
    refine ⟨Nat.not_lt.1 fun h => ?_, Nat.not_le.1 fun h => ?_⟩
    · rw [hz j (.inl h)] at hej; cases hej
    · rw [hz j (.inr h)] at hej; cases hej
  -- m: the bits of the window that are within
  let m := min 32 (n - at_)
  have hm : m ≤ 32 := Nat.min_le_left _ _
  let E : BitVec 32 := wd (fun i => e (at_ + i)) m
  have hE : ∀ i, i < 32 → E.getLsbD i = (decide (i < m) && e (at_ + i)) := fun i hi => wd_bit _ m i hi
  have hEm : E >>> m = 0#32 := by
    apply BitVec.eq_of_getLsbD_eq
    intro i hi
    rw [BitVec.getLsbD_ushiftRight]
    rcases Nat.lt_or_ge (m + i) 32 with h | h
    · rw [hE _ h, decide_eq_false (by omega)]; simp
    · rw [BitVec.getLsbD_of_ge _ _ h]; simp
  have hne : E ≠ 0#32 := fun h0 => by
    have := hE (j - at_) (by omega)
    rw [h0, show at_ + (j - at_) = j by omega, hej, decide_eq_true (show j - at_ < m by simp only [m]; omega)] at this
    simp at this
  have hw : feed 0#32 (fun i => e (at_ + i)) m = stepN m E := by
    have := feed_byte 0#32 E m
    rw [hEm, BitVec.xor_zero, BitVec.zero_xor] at this
    rw [this]
    refine feed_congr fun i hi => ?_
    rw [hE i (by omega)]; simp [hi]
  have h1 : feed 0#32 e (at_ + m) = stepN m E := by
    rw [feed_add, feed_none _ e at_ (fun i hi => hz i (.inl hi)), stepN_zero, hw]
  have h2 : feed 0#32 e n = stepN (n - (at_ + m)) (stepN m E) := by
    have : n = (at_ + m) + (n - (at_ + m)) := by simp only [m]; omega
    conv => lhs; rw [this]
    rw [feed_add, h1]
    refine feed_none _ _ _ fun i hi => hz _ ?_
    simp only [m] at hi ⊢
    omega
  rw [h2]
  exact fun h => hne (stepN_inj0 (stepN_inj0 h))
/-- A byte as a register. -/
def bv (c : Int) : BitVec 32 := BitVec.ofNat 32 c.toNat
def step8 (r : BitVec 32) (c : Int) : BitVec 32 := stepN 8 (r ^^^ bv c)
def crcR (r : BitVec 32) (l : List Int) : BitVec 32 := l.foldl step8 r
def MoreS (s : BitVec 32) (l : List Int) : BitVec 32 := ~~~ (crcR (~~~ s) l)
theorem MoreS_append (s : BitVec 32) (a b : List Int) : MoreS (MoreS s a) b = MoreS s (a ++ b) := by
  unfold MoreS crcR
  rw [BitVec.not_not, List.foldl_append]
/-- The bits of bytes, the lowest of each first. -/
def bitOf (l : List Int) (j : Nat) : Bool := (bv (l.getD (j / 8) 0)).getLsbD (j % 8)
theorem crcR_feed (r : BitVec 32) (l : List Int) (hl : Bytes l) : ∀ n, n ≤ l.length → crcR r (l.take n) = feed r (bitOf l) (8 * n) := by
  intro n
  induction n with
  | zero => intro _; simp [crcR, feed]
  | succ n ih =>
    intro hn
    have hlt : n < l.length := by omega
    rw [List.take_succ_eq_append_getElem hlt, crcR, List.foldl_append]
    have e1 : l.foldl step8 r = l.foldl step8 r := rfl
    have := ih (by omega)
    rw [crcR] at this
    rw [this]
    simp only [List.foldl_cons, List.foldl_nil, step8]
    rw [show 8 * (n + 1) = 8 * n + 8 by omega, feed_add, feed_byte]
    have hz : bv l[n] >>> 8 = 0#32 := by
      have hb := hl l[n] (List.getElem_mem hlt)
      apply BitVec.eq_of_toNat_eq
      simp only [BitVec.toNat_ushiftRight, bv, BitVec.toNat_ofNat]
      rw [Nat.mod_eq_of_lt (by omega), Nat.shiftRight_eq_div_pow]
      simp
      omega
    rw [hz, BitVec.xor_zero]
    refine feed_congr fun i hi => ?_
    unfold bitOf
    rw [show (8 * n + i) / 8 = n by omega, show (8 * n + i) % 8 = i by omega, List.getD_eq_getElem?_getD, List.getElem?_eq_getElem hlt]
    rfl
theorem crcR_all (r : BitVec 32) (l : List Int) (hl : Bytes l) : crcR r l = feed r (bitOf l) (8 * l.length) := by
  have := crcR_feed r l hl l.length (Nat.le_refl _)
  rwa [List.take_length] at this
/-- Bytes of one length that differ within 32 bits in a row have other sums. -/
theorem MoreS_burst (s : BitVec 32) (a b : List Int) (ha : Bytes a) (hb : Bytes b) (hl : a.length = b.length) (at_ : Nat)
    (hz : ∀ j, j < at_ ∨ at_ + 32 ≤ j → bitOf a j = bitOf b j) (hs : ∃ j, j < 8 * a.length ∧ bitOf a j ≠ bitOf b j) : MoreS s a ≠ MoreS s b := by
  intro h
  unfold MoreS at h
  have h' : crcR (~~~ s) a = crcR (~~~ s) b := by
    have := congrArg (fun x => ~~~ x) h
    simpa using this
  rw [crcR_all _ a ha, crcR_all _ b hb, ← hl] at h'
  have hx := feed_xor (~~~ s) (~~~ s) (bitOf a) (bitOf b) (8 * a.length)
  rw [h', BitVec.xor_self, BitVec.xor_self] at hx
  refine feed_burst (fun i => bitOf a i ^^ bitOf b i) at_ (8 * a.length) (fun j hj => ?_) ?_ hx.symm
  · simp [hz j hj]
  · obtain ⟨j, hj, hne⟩ := hs
    refine ⟨j, hj, ?_⟩
    cases h1 : bitOf a j <;> cases h2 : bitOf b j <;> simp_all
end Go.Proofs.Ytjidoedlmpjmnaa.SumsP
namespace Go.Proofs.Ytjidoedlmpjmnaa.SumW
open Go.RowKit Go.Proofs.Ytjidoedlmpjmnaa.SumsP Go.Proofs.Ytjidoedlmpjmnaa.Bits Go.Proofs.Ytjidoedlmpjmnaa.Help Go.Proofs.YtjidoedlmpjmnaaW.PrintWords Go.Proofs.YtjidoedlmpjmnaaW.PrintLast Go.Proofs.YtjidoedlmpjmnaaW.PrintMore
set_option linter.unusedVariables false
set_option linter.unusedSimpArgs false
theorem fold_any (n : Int) (w : World) (h0 : 0 ≤ n) (h1 : n < 18446744073709551616) :
    Calls Try.prog 55 #[.int .u64 n] w fun e w' => e = .returned (.int .u16 (fs n)) ∧ w = w' := by
  have H := Aside0.mk (And.intro h0 h1)
  clear h0 h1
  go_enter Try.func55, Try.ntmps55
  go_wp2_with fail
  go_loopg [0] n.toNat (fun kq v0 w' => ∃ x : Int, Aside0 (x.toNat ≤ kq ∧ 0 ≤ x ∧ x < 18446744073709551616 ∧ fs x = fs n) ∧ v0 = .int .u64 x ∧ w = w')
  case atStart => exact ⟨n, ⟨Nat.le_refl _, H.out.1, H.out.2, rfl⟩, rfl, rfl⟩
  case round =>
    obtain ⟨x, HK, rfl, rfl⟩ := hrel
    obtain ⟨k1, k2, k3, k4⟩ := HK.out
    by_cases hx : 65535 < x
    · have e : Go.bits .and .u64 x 65535 = x % 65536 := and_mask_u64 16 (by decide) k2 (by omega)
      have e2 : IntKind.u64.wrap (x / 65536 + x % 65536) = x / 65536 + x % 65536 := wrap_u64_id (by omega) (by omega)
      have HN : Aside0 ((x / 65536 + x % 65536).toNat < gk ∧ 0 ≤ x / 65536 + x % 65536 ∧ x / 65536 + x % 65536 < 18446744073709551616 ∧ fs (x / 65536 + x % 65536) = fs n) := ⟨by omega, by omega, by omega, (fs_round hx).trans k4⟩
      clear k1 k2 k3 k4
      go_wp2_with fail
      go_roundg (x / 65536 + x % 65536).toNat
      case measure => exact HN.out.1
      case rel => exact ⟨x / 65536 + x % 65536, ⟨Nat.le_refl _, HN.out.2⟩, rfl, rfl⟩
    · have e : IntKind.u16.wrap x = x := wrap_u16_id k2 (by omega)
      have HF : Aside0 (x = fs n) := ⟨by rw [← k4, fs_small k2 (by omega)]⟩
      clear k1 k2 k3 k4
      go_wp2_with fail
      go_ret
      exact ⟨by rw [← HF.out]; rfl, rfl⟩
theorem ws_drop {l : List Int} {i : Nat} (h : i < l.length) (b : Bool) : ws b (l.drop i) = (if b then l.getD i 0 * 256 else l.getD i 0) + ws (!b) (l.drop (i + 1)) := by
  rw [List.drop_eq_getElem_cons h, List.getD_eq_getElem?_getD, List.getElem?_eq_getElem h]
  cases b <;> rfl
set_option maxHeartbeats 2000000 in
theorem Add_any (s : Int) (A : Option Addr) (c : Nat) (l : List Int) (w : World) (hs : 0 ≤ s ∧ s ≤ 65535) (hr : Kd.C (Kd.int .u8) w A l.length l) (hx : Bytes l) (hl : l.length ≤ 140737488355328) :
    Calls Try.prog 36 #[.int .u16 s, .slice A l.length c] w fun e w' => e = .returned (.int .u16 (AddS s l)) ∧ w = w' := by
  have H := Aside0.mk (And.intro hs (And.intro hx hl))
  have HR := Aside0.mk hr
  have hw := wrap_u64_id hs.1 (show s < 18446744073709551616 by omega)
  clear hs hr hx hl
  go_enter Try.func36, Try.ntmps36
  go_wp2_with fail
  clear hw
  go_loopg [5, 12] l.length (fun kq v5 v12 w' => ∃ (i : Nat) (x : Int), Aside0 (kq + i = l.length) ∧ v12 = .int .i64 (i : Int) ∧ v5 = .int .u64 x ∧ Aside0 (0 ≤ x ∧ x ≤ 65535 + 65280 * i ∧ s + ws true l = x + ws (decide (i % 2 = 0)) (l.drop i)) ∧ w = w')
  case atStart => exact ⟨0, s, ⟨by simp⟩, rfl, rfl, ⟨H.out.1.1, by have := H.out.1.2; omega, by simp⟩, rfl⟩
  case round =>
    obtain ⟨i, x, HK, rfl, rfl, HX, rfl⟩ := hrel
    cases gk with
    | zero =>
      obtain rfl : i = l.length := by have := HK.out; omega
      have hx := HX.out
      rw [List.drop_length] at hx
      have hz : ws (decide (l.length % 2 = 0)) [] = 0 := by cases decide (l.length % 2 = 0) <;> rfl
      rw [hz, Int.add_zero] at hx
      have HF := Aside0.mk (fold_any x w hx.1 (by have := H.out.2.2; omega))
      have HE : Aside0 (AddS s l = fs x) := ⟨by unfold AddS; rw [hx.2.2]⟩
      clear hx hz
      generalize fs x = y at *
      go_wp2_with fail
      refine HF.out.mono ?_
      rintro e w' ⟨rfl, rfl⟩
      go_wp2_with fail
      go_ret
      exact ⟨by rw [HE.out]; rfl, rfl⟩
    | succ kq =>
      have hi : i < l.length := by have := HK.out; omega
      have hi2 : ((i : Nat) : Int) < ((l.length : Nat) : Int) := by omega
      obtain ⟨ad, rfl, hcl⟩ := (Kd.reads_of_C (d := (0 : Int)) HR.out).2.2 (by omega)
      have hc := hcl i hi
      have hby := H.out.2.1.get i
      have hd := ws_drop hi (decide (i % 2 = 0))
      have hxx := HX.out
      have hll := H.out.2.2
      clear hcl
      generalize l.getD i 0 = b at *
      have hwc : IntKind.u64.wrap b = b := wrap_u64_id (by omega) (by omega)
      by_cases hp : i % 2 = 0
      · have ht : (i : Int).tmod 2 = 0 := by rw [Int.tmod_eq_emod_of_nonneg (by omega)]; omega
        have h1 : IntKind.u64.wrap (b * 256) = b * 256 := wrap_u64_id (by omega) (by omega)
        have h2 : IntKind.u64.wrap (x + b * 256) = x + b * 256 := wrap_u64_id (by omega) (by omega)
        have HN : Aside0 (0 ≤ x + b * 256 ∧ x + b * 256 ≤ 65535 + 65280 * (i + 1) ∧ s + ws true l = (x + b * 256) + ws (decide ((i + 1) % 2 = 0)) (l.drop (i + 1))) := ⟨by omega, by omega, by
          have e1 : decide (i % 2 = 0) = true := by simpa using hp
          have e2 : decide ((i + 1) % 2 = 0) = false := by simp; omega
          rw [e1] at hd hxx; rw [e2]; simp at hd; omega⟩
        clear hxx hd hby hp hll
        go_wp2_with fail
        go_roundg kq
        case measure => omega
        case rel => exact ⟨i + 1, x + b * 256, ⟨by have := HK.out; omega⟩, by simp; have := H.out.2.2; first | omega | (unfold wrap64; omega), rfl, HN, rfl⟩
      · have ht : (i : Int).tmod 2 = 1 := by rw [Int.tmod_eq_emod_of_nonneg (by omega)]; omega
        have h2 : IntKind.u64.wrap (x + b) = x + b := wrap_u64_id (by omega) (by omega)
        have HN : Aside0 (0 ≤ x + b ∧ x + b ≤ 65535 + 65280 * (i + 1) ∧ s + ws true l = (x + b) + ws (decide ((i + 1) % 2 = 0)) (l.drop (i + 1))) := ⟨by omega, by omega, by
          have e1 : decide (i % 2 = 0) = false := by simpa using hp
          have e2 : decide ((i + 1) % 2 = 0) = true := by simp; omega
          rw [e1] at hd hxx; rw [e2]; simp at hd; omega⟩
        clear hxx hd hby hp hll
        go_wp2_with fail
        go_roundg kq
        case measure => omega
        case rel => exact ⟨i + 1, x + b, ⟨by have := HK.out; omega⟩, by simp; have := H.out.2.2; first | omega | (unfold wrap64; omega), rfl, HN, rfl⟩
theorem Inet_any (A : Option Addr) (c : Nat) (l : List Int) (w : World) (hr : Kd.C (Kd.int .u8) w A l.length l) (hx : Bytes l) (hl : l.length ≤ 140737488355328) :
    Calls Try.prog 47 #[.slice A l.length c] w fun e w' => e = .returned (.int .u16 (InetS l)) ∧ w = w' := by
  have HA := Aside0.mk (Add_any 0 A c l w ⟨by omega, by omega⟩ hr hx hl)
  have hb := AddS_bd (s := 0) (by omega) hx
  have HE : Aside0 (InetS l = 65535 - AddS 0 l) := ⟨rfl⟩
  clear hr hx hl
  generalize AddS 0 l = y at *
  have hy : Go.bits .xor .u16 IntKind.u16.max y = 65535 - y := not_u16 hb.1 hb.2
  clear hb
  go_enter Try.func47, Try.ntmps47
  go_wp2_with fail
  refine HA.out.mono ?_
  rintro e w' ⟨rfl, rfl⟩
  go_wp2_with fail
  go_ret
  exact ⟨by rw [HE.out]; rfl, rfl⟩
theorem round_any (a b : Int) (w : World) (ha : 0 ≤ a ∧ a ≤ 65535) (hb : 0 ≤ b ∧ b ≤ 65535) :
    Calls Try.prog 54 #[.int .u16 a, .int .u16 b] w fun e w' => e = .returned (.int .u16 (fs (a + b))) ∧ w = w' := by
  have h1 : IntKind.u32.wrap a = a := wrap_u32_id (by omega) (by omega)
  have h2 : IntKind.u32.wrap b = b := wrap_u32_id (by omega) (by omega)
  have h3 : IntKind.u32.wrap (a + b) = a + b := wrap_u32_id (by omega) (by omega)
  by_cases h : 65535 < a + b
  · have h4 : IntKind.u32.wrap (a + b - 65535) = a + b - 65535 := wrap_u32_id (by omega) (by omega)
    have h5 : IntKind.u16.wrap (a + b - 65535) = a + b - 65535 := wrap_u16_id (by omega) (by omega)
    have HE : Aside0 (a + b - 65535 = fs (a + b)) := ⟨by unfold fs; split <;> omega⟩
    clear ha hb
    go_enter Try.func54, Try.ntmps54
    go_wp2_with fail
    go_ret
    exact ⟨by rw [← HE.out]; rfl, rfl⟩
  · have h5 : IntKind.u16.wrap (a + b) = a + b := wrap_u16_id (by omega) (by omega)
    have HE : Aside0 (a + b = fs (a + b)) := ⟨by unfold fs; split <;> omega⟩
    clear ha hb
    go_enter Try.func54, Try.ntmps54
    go_wp2_with fail
    go_ret
    exact ⟨by rw [← HE.out]; rfl, rfl⟩
set_option maxHeartbeats 2000000 in
theorem refAdd_any (s : Int) (A : Option Addr) (c : Nat) (l : List Int) (w : World) (hs : 0 ≤ s ∧ s ≤ 65535) (hr : Kd.C (Kd.int .u8) w A l.length l) (hx : Bytes l) (hl : l.length ≤ 140737488355328) :
    Calls Try.prog 35 #[.int .u16 s, .slice A l.length c] w fun e w' => e = .returned (.int .u16 (AddS s l)) ∧ w = w' := by
  have H := Aside0.mk (And.intro hs (And.intro hx hl))
  have HR := Aside0.mk hr
  clear hs hr hx hl
  go_enter Try.func35, Try.ntmps35
  go_wp2_with fail
  go_loopg [0, 5] ((l.length + 1) / 2) (fun kq v0 v5 w' => ∃ (j : Nat) (x : Int), Aside0 (kq + j = (l.length + 1) / 2) ∧ v5 = .int .i64 ((2 * j : Nat) : Int) ∧ v0 = .int .u16 x ∧ Aside0 (0 ≤ x ∧ x ≤ 65535 ∧ AddS s l = fs (x + ws true (l.drop (2 * j)))) ∧ w = w')
  case atStart => exact ⟨0, s, ⟨by simp⟩, rfl, rfl, ⟨H.out.1.1, H.out.1.2, by simp [AddS]⟩, rfl⟩
  case round =>
    obtain ⟨j, x, HK, rfl, rfl, HX, rfl⟩ := hrel
    have hll := H.out.2.2
    cases gk with
    | zero =>
      have hj : j = (l.length + 1) / 2 := by have := HK.out; omega
      have hx := HX.out
      have hd : l.drop (2 * j) = [] := List.drop_eq_nil_of_le (by omega)
      rw [hd] at hx
      have HE : Aside0 (AddS s l = x) := ⟨by rw [hx.2.2]; show fs (x + 0) = x; rw [Int.add_zero, fs_small hx.1 hx.2.1]⟩
      have hlt : ¬ (((2 * j : Nat) : Int) < ((l.length : Nat) : Int)) := by omega
      clear hx hd hll hj HX HK
      generalize 2 * j = i at *
      go_wp2_with fail
      go_ret
      exact ⟨by rw [HE.out]; rfl, rfl⟩
    | succ kq =>
      have hi : 2 * j < l.length := by have := HK.out; omega
      have hi2 : ((2 * j : Nat) : Int) < ((l.length : Nat) : Int) := by omega
      obtain ⟨ad, rfl, hcl⟩ := (Kd.reads_of_C (d := (0 : Int)) HR.out).2.2 (by omega)
      have hc := hcl (2 * j) hi
      have hby := H.out.2.1.get (2 * j)
      have hd := ws_drop hi true
      have hxx := HX.out
      have hwi : IntKind.i64.wrap (((2 * j : Nat) : Int) + 1) = ((2 * j + 1 : Nat) : Int) := by rw [IntWalk.i64_in _ (by omega)]; simp
      have hwi2 : IntKind.i64.wrap (((2 * j : Nat) : Int) + 2) = ((2 * (j + 1) : Nat) : Int) := by rw [IntWalk.i64_in _ (by omega)]; omega
      have hwc : IntKind.u16.wrap (l.getD (2 * j) 0) = l.getD (2 * j) 0 := wrap_u16_id (by omega) (by omega)
      have h1 : IntKind.u16.wrap (l.getD (2 * j) 0 * 256) = l.getD (2 * j) 0 * 256 := wrap_u16_id (by omega) (by omega)
      by_cases hp : 2 * j + 1 < l.length
      · have hp2 : ((2 * j + 1 : Nat) : Int) < ((l.length : Nat) : Int) := by omega
        have hc2 := hcl (2 * j + 1) hp
        have hby2 := H.out.2.1.get (2 * j + 1)
        have hd2 := ws_drop hp false
        have hwc2 : IntKind.u16.wrap (l.getD (2 * j + 1) 0) = l.getD (2 * j + 1) 0 := wrap_u16_id (by omega) (by omega)
        have hor : Go.bits .or .u16 (l.getD (2 * j) 0 * 256) (l.getD (2 * j + 1) 0) = l.getD (2 * j) 0 * 256 + l.getD (2 * j + 1) 0 := or_join_u16 8 (by omega) (by omega) (by omega) hby2.1 (by omega) (by omega)
        have HRD := Aside0.mk (round_any x (l.getD (2 * j) 0 * 256 + l.getD (2 * j + 1) 0) w ⟨hxx.1, hxx.2.1⟩ ⟨by omega, by omega⟩)
        have HN : Aside0 (0 ≤ fs (x + (l.getD (2 * j) 0 * 256 + l.getD (2 * j + 1) 0)) ∧ fs (x + (l.getD (2 * j) 0 * 256 + l.getD (2 * j + 1) 0)) ≤ 65535 ∧ AddS s l = fs (fs (x + (l.getD (2 * j) 0 * 256 + l.getD (2 * j + 1) 0)) + ws true (l.drop (2 * (j + 1))))) := ⟨(fs_bd _ (by omega)).1, (fs_bd _ (by omega)).2, by
          have hb2 := (ws_bd _ (H.out.2.1.drop (2 * (j + 1))) true).1
          rw [fs_add (by omega) hb2, hxx.2.2, hd, show (!true) = false from rfl, hd2]
          rw [show 2 * j + 1 + 1 = 2 * (j + 1) by omega, if_pos rfl, if_neg (by decide)]
          congr 1
          simp only [Bool.not_false]
          omega⟩
        clear hxx hd hby hll hd2 hby2 hcl hi HX
        generalize l.getD (2 * j + 1) 0 = b1 at *
        generalize l.getD (2 * j) 0 = b0 at *
        generalize hi0 : 2 * j = i at *
        have HI0 := Aside0.mk hi0
        clear hi0
        generalize hi1 : i + 1 = i1 at *
        clear hi1 hp
        go_wp2_with fail
        refine HRD.out.mono ?_
        rintro e w' ⟨rfl, rfl⟩
        go_wp2_with fail
        go_roundg kq
        case measure => omega
        case rel => exact ⟨j + 1, _, ⟨by have := HK.out; omega⟩, rfl, rfl, HN, rfl⟩
      · have hp2 : ¬ ((2 * j + 1 : Nat) : Int) < ((l.length : Nat) : Int) := by omega
        have HRD := Aside0.mk (round_any x (l.getD (2 * j) 0 * 256) w ⟨hxx.1, hxx.2.1⟩ ⟨by omega, by omega⟩)
        have HN : Aside0 (0 ≤ fs (x + l.getD (2 * j) 0 * 256) ∧ fs (x + l.getD (2 * j) 0 * 256) ≤ 65535 ∧ AddS s l = fs (fs (x + l.getD (2 * j) 0 * 256) + ws true (l.drop (2 * (j + 1))))) := ⟨(fs_bd _ (by omega)).1, (fs_bd _ (by omega)).2, by
          have e1 : l.drop (2 * (j + 1)) = [] := List.drop_eq_nil_of_le (by omega)
          have e2 : l.drop (2 * j + 1) = [] := List.drop_eq_nil_of_le (by omega)
          rw [e1, fs_add (by omega) (by simp [ws]), hxx.2.2, hd, e2, if_pos rfl]
          simp [ws]⟩
        clear hxx hd hby hll hcl hi HX
        generalize l.getD (2 * j) 0 = b0 at *
        generalize hi0 : 2 * j = i at *
        have HI0 := Aside0.mk hi0
        clear hi0
        generalize hi1 : i + 1 = i1 at *
        clear hi1 hp
        go_wp2_with fail
        refine HRD.out.mono ?_
        rintro e w' ⟨rfl, rfl⟩
        go_wp2_with fail
        go_roundg kq
        case measure => omega
        case rel => exact ⟨j + 1, _, ⟨by have := HK.out; omega⟩, rfl, rfl, HN, rfl⟩
theorem refInet_any (A : Option Addr) (c : Nat) (l : List Int) (w : World) (hr : Kd.C (Kd.int .u8) w A l.length l) (hx : Bytes l) (hl : l.length ≤ 140737488355328) :
    Calls Try.prog 18 #[.slice A l.length c] w fun e w' => e = .returned (.int .u16 (InetS l)) ∧ w = w' := by
  have HA := Aside0.mk (refAdd_any 0 A c l w ⟨by omega, by omega⟩ hr hx hl)
  have hb := AddS_bd (s := 0) (by omega) hx
  have HE : Aside0 (InetS l = 65535 - AddS 0 l) := ⟨rfl⟩
  clear hr hx hl
  generalize AddS 0 l = y at *
  have hy : IntKind.u16.wrap (65535 - y) = 65535 - y := wrap_u16_id (by omega) (by omega)
  clear hb
  go_enter Try.func18, Try.ntmps18
  go_wp2_with fail
  refine HA.out.mono ?_
  rintro e w' ⟨rfl, rfl⟩
  go_wp2_with fail
  go_ret
  exact ⟨by rw [HE.out]; rfl, rfl⟩
theorem bytes_of {l : List Int} (h : CurP.AllB l) : Bytes l := fun x hx => by have := h x hx; omega
theorem inet_bd {l : List Int} (h : Bytes l) : 0 ≤ InetS l ∧ InetS l ≤ 65535 := by have := AddS_bd (s := 0) (by omega) h; unfold InetS; omega
end Go.Proofs.Ytjidoedlmpjmnaa.SumW
