/- The reader of forms: parts, numbers, marks, counts. -/
import Derived.Test.YtliklkagieaoeaaP3
namespace Stk
open Go
set_option maxRecDepth 100000
set_option linter.unusedSimpArgs false
set_option linter.unusedVariables false
set_option maxHeartbeats 4000000
theorem or_shl (k : IntKind) {x y : Int} {n : Nat} (hx : 0 ≤ x ∧ x < 2 ^ n) (hy : 0 ≤ y) (hb : x + y * 2 ^ n < 2 ^ k.bits) (hw : k.wrap (x + y * 2 ^ n) = x + y * 2 ^ n) : bitsV .or k x (y * 2 ^ n) = x + y * 2 ^ n := by
  obtain ⟨a, rfl⟩ : ∃ a : Nat, x = a := ⟨x.toNat, by omega⟩
  obtain ⟨b, rfl⟩ : ∃ b : Nat, y = b := ⟨y.toNat, by omega⟩
  have hx' : a < 2 ^ n := by exact_mod_cast hx.2
  have hb' : a + b * 2 ^ n < 2 ^ k.bits := by exact_mod_cast hb
  have e1 : ((b : Int) * 2 ^ n) = ((b * 2 ^ n : Nat) : Int) := by push_cast; rfl
  have e2 : ((a : Int) + b * 2 ^ n) = ((a + b * 2 ^ n : Nat) : Int) := by push_cast; rfl
  rw [e2] at hw ⊢
  rw [e1]
  unfold bitsV
  have t1 : (BitVec.ofInt k.bits (a : Int)).toNat = a := by
    rw [BitVec.ofInt_natCast, BitVec.toNat_ofNat, Nat.mod_eq_of_lt (by omega)]
  have t2 : (BitVec.ofInt k.bits ((b * 2 ^ n : Nat) : Int)).toNat = b * 2 ^ n := by
    rw [BitVec.ofInt_natCast, BitVec.toNat_ofNat, Nat.mod_eq_of_lt (by omega)]
  dsimp only
  rw [BitVec.toNat_or, t1, t2]
  have : a ||| b * 2 ^ n = a + b * 2 ^ n := by
    have := Nat.shiftLeft_add_eq_or_of_lt hx' b
    rw [Nat.shiftLeft_eq] at this
    rw [Nat.or_comm, ← this, Nat.add_comm]
  rw [this]
  exact hw
theorem bits_or_comm (k : IntKind) (x y : Int) : bitsV .or k x y = bitsV .or k y x := by
  unfold bitsV
  dsimp only
  rw [BitVec.or_comm]
theorem or_u64 {x y : Int} (hx : 0 ≤ x ∧ x ≤ 255) (hy : 0 ≤ y) (hb : x + y * 256 < 18446744073709551616) : bitsV .or .u64 (y * 2 ^ 8) x = x + y * 256 := by
  rw [bits_or_comm, or_shl .u64 (n := 8) (by omega) hy (by show _ < (2 : Int) ^ 64; omega) (by rw [IntKind.wrap_u64]; omega)]
  omega
theorem k_clone (ys : List Tr) (hy : ys.length ≤ 2 ^ 46) : ACalls PP GG F.slices_Clone_byte_byte [.bz 1 ys] [] fun r H' => r = .sl 0 0 [] 0 ys.length none ∧ H' = [.row 1 ys] := by
  refine K.slices_Clone_byte_byte.callsC rfl ?_
  refine sat_br (fun h => ?_) (fun h => ?_)
  · have : ys = [] := by simpa using h
    subst this
    refine sat_any ?_ ?_
    · (conv => arg 3; whnf); repeat (first | ((with_reducible refine sat_brT ?_ ?_); rfl; conv => arg 3; whnf) | ((with_reducible refine sat_brF ?_ ?_); rfl; conv => arg 3; whnf) | ((with_reducible refine sat_eqv ?_ ?_); rfl; conv => arg 3; whnf))
      exact sat_ret ⟨rfl, rfl⟩
    · (conv => arg 3; whnf); repeat (first | ((with_reducible refine sat_brT ?_ ?_); rfl; conv => arg 3; whnf) | ((with_reducible refine sat_brF ?_ ?_); rfl; conv => arg 3; whnf) | ((with_reducible refine sat_eqv ?_ ?_); rfl; conv => arg 3; whnf))
      refine sat_asrt (by simp [roomy]) ?_
      exact sat_ret ⟨rfl, rfl⟩
  · (conv => arg 3; whnf); repeat (first | ((with_reducible refine sat_brT ?_ ?_); rfl; conv => arg 3; whnf) | ((with_reducible refine sat_brF ?_ ?_); rfl; conv => arg 3; whnf) | ((with_reducible refine sat_eqv ?_ ?_); rfl; conv => arg 3; whnf))
    refine sat_asrt (by simp [roomy]; omega) ?_
    exact sat_ret ⟨rfl, rfl⟩
structure Rd where
  b : List Tr
  e : Int
abbrev Rd.v (r : Rd) : AO := .var (.agg [.bz 1 r.b, ti r.e])
def Rd.take (r : Rd) (n : Nat) : Rd × List Tr :=
  if r.e ≠ 0 then (r, []) else if n > r.b.length then ({ r with e := 4 }, []) else ({ r with b := r.b.drop n }, r.b.take n)
theorem k_take (r : Rd) (n : Nat) (hn : n ≤ 2 ^ 50) : ACalls PP GG F.pack_reader_take [pt 0, ti n] [r.v] fun v H' =>
    (r.e = 0 ∧ n ≤ r.b.length ∧ v = .bz 1 (r.take n).2 ∧ H' = [(r.take n).1.v]) ∨ ((r.take n).2 = [] ∧ v = .sl 1 0 [] 0 0 none ∧ H' = [(r.take n).1.v, .row 1 []]) := by
  refine K.pack_reader_take.callsC rfl ?_
  obtain ⟨b, e⟩ := r
  by_cases he : e = 0
  · subst he
    (conv => arg 3; whnf); repeat (first | ((with_reducible refine sat_brT ?_ ?_); rfl; conv => arg 3; whnf) | ((with_reducible refine sat_brF ?_ ?_); rfl; conv => arg 3; whnf) | ((with_reducible refine sat_eqv ?_ ?_); rfl; conv => arg 3; whnf))
    refine sat_br (fun h => ?_) (fun h => ?_)
    · (conv => arg 3; whnf); repeat (first | ((with_reducible refine sat_brT ?_ ?_); rfl; conv => arg 3; whnf) | ((with_reducible refine sat_brF ?_ ?_); rfl; conv => arg 3; whnf) | ((with_reducible refine sat_eqv ?_ ?_); rfl; conv => arg 3; whnf))
      have h : (n : Int) > (b.length : Int) := of_decide_eq_true h
      have ht : Rd.take ⟨b, 0⟩ n = (⟨b, 4⟩, []) := by unfold Rd.take; rw [if_neg (by simp), if_pos (by show n > b.length; omega)]
      rw [ht]
      exact sat_ret (.inr ⟨rfl, rfl, rfl⟩)
    · (conv => arg 3; whnf); repeat (first | ((with_reducible refine sat_brT ?_ ?_); rfl; conv => arg 3; whnf) | ((with_reducible refine sat_brF ?_ ?_); rfl; conv => arg 3; whnf) | ((with_reducible refine sat_eqv ?_ ?_); rfl; conv => arg 3; whnf))
      have h : ¬ (n : Int) > (b.length : Int) := of_decide_eq_false h
      have ht : Rd.take ⟨b, 0⟩ n = (⟨b.drop n, 0⟩, b.take n) := by unfold Rd.take; rw [if_neg (by simp), if_neg (by show ¬ n > b.length; omega)]
      rw [ht]
      refine sat_asrt (by first | rfl | (simp; done) | (simp; omega)) ?_
      (conv => arg 3; whnf); repeat (first | ((with_reducible refine sat_brT ?_ ?_); rfl; conv => arg 3; whnf) | ((with_reducible refine sat_brF ?_ ?_); rfl; conv => arg 3; whnf) | ((with_reducible refine sat_eqv ?_ ?_); rfl; conv => arg 3; whnf))
      have hnb : n ≤ b.length := by omega
      refine sat_asrt (by simp; omega) ?_
      (conv => arg 3; whnf); repeat (first | ((with_reducible refine sat_brT ?_ ?_); rfl; conv => arg 3; whnf) | ((with_reducible refine sat_brF ?_ ?_); rfl; conv => arg 3; whnf) | ((with_reducible refine sat_eqv ?_ ?_); rfl; conv => arg 3; whnf))
      refine sat_asrt (by simp; omega) ?_
      (conv => arg 3; whnf); repeat (first | ((with_reducible refine sat_brT ?_ ?_); rfl; conv => arg 3; whnf) | ((with_reducible refine sat_brF ?_ ?_); rfl; conv => arg 3; whnf) | ((with_reducible refine sat_eqv ?_ ?_); rfl; conv => arg 3; whnf))
      refine sat_ret (.inl ⟨rfl, hnb, ?_, ?_⟩)
      · rfl
      · show [AO.var (AV.agg [AV.bz 1 (List.drop n (List.take b.length b)), ti 0])] = _
        rw [List.take_length]
  · (conv => arg 3; whnf); repeat (first | ((with_reducible refine sat_brT ?_ ?_); rfl; conv => arg 3; whnf) | ((with_reducible refine sat_brF ?_ ?_); rfl; conv => arg 3; whnf) | ((with_reducible refine sat_eqv ?_ ?_); rfl; conv => arg 3; whnf))
    generalize hg : (e == 0) = g
    obtain rfl : g = false := by rw [← hg]; simpa using he
    (conv => arg 3; whnf); repeat (first | ((with_reducible refine sat_brT ?_ ?_); rfl; conv => arg 3; whnf) | ((with_reducible refine sat_brF ?_ ?_); rfl; conv => arg 3; whnf) | ((with_reducible refine sat_eqv ?_ ?_); rfl; conv => arg 3; whnf))
    have ht : Rd.take ⟨b, e⟩ n = (⟨b, e⟩, []) := by unfold Rd.take; rw [if_pos he]
    rw [ht]
    refine sat_brT (by simpa using he) ?_
    (conv => arg 3; whnf); repeat (first | ((with_reducible refine sat_brT ?_ ?_); rfl; conv => arg 3; whnf) | ((with_reducible refine sat_brF ?_ ?_); rfl; conv => arg 3; whnf) | ((with_reducible refine sat_eqv ?_ ?_); rfl; conv => arg 3; whnf))
    exact sat_ret (.inr ⟨rfl, rfl, rfl⟩)
theorem Rd.take_b {r : Rd} (h : AllB r.b) (n : Nat) : AllB (r.take n).1.b ∧ AllB (r.take n).2 ∧ (r.take n).2.length ≤ n ∧ (r.take n).1.b.length ≤ r.b.length := by
  unfold Rd.take
  split
  · exact ⟨h, AllB.nil, by simp, Nat.le_refl _⟩
  · split
    · exact ⟨h, AllB.nil, by simp, Nat.le_refl _⟩
    · exact ⟨h.drop n, h.take n, by simp; omega, by simp⟩
/-- The number that bytes are, the lowest first. -/
def valB : List Tr → Int
  | .int _ a :: L => a + 256 * valB L
  | _ => 0
theorem valB_cons (a : Int) (L : List Tr) : valB (u8 a :: L) = a + 256 * valB L := rfl
theorem valB_range : ∀ (L : List Tr), AllB L → 0 ≤ valB L ∧ valB L < 256 ^ L.length
  | [], _ => by simp [valB]
  | x :: L, h => by
    obtain ⟨v, rfl, hv⟩ := h x (by simp)
    have ih := valB_range L fun y hy => h y (by simp [hy])
    rw [valB_cons, List.length_cons, Int.pow_succ]
    omega
theorem pow256 {n m : Nat} (h : n ≤ m) : (256 : Int) ^ n ≤ 256 ^ m := by
  have : (256 : Nat) ^ n ≤ 256 ^ m := Nat.pow_le_pow_right (by omega) h
  exact_mod_cast this
def Rd.fixed (r : Rd) (k : Nat) : Rd × Int := ((r.take k).1, valB (r.take k).2)
structure FiSt (L : List Tr) where
  i : Nat
  v : Int
  eq : v = valB (L.drop i)
  le : i ≤ L.length
theorem k_rfixed (r : Rd) (hr : AllB r.b) (k : Nat) (hk : k ≤ 8) : ACalls PP GG F.pack_reader_fixed [pt 0, ti k] [r.v] fun v H' => v = tu (r.fixed k).2 ∧ H' = [(r.fixed k).1.v] := by
  obtain ⟨t1, t2, t3, t4⟩ := Rd.take_b hr k
  refine K.pack_reader_fixed.callsC rfl ?_
  (conv => arg 3; whnf); repeat (first | ((with_reducible refine sat_brT ?_ ?_); rfl; conv => arg 3; whnf) | ((with_reducible refine sat_brF ?_ ?_); rfl; conv => arg 3; whnf) | ((with_reducible refine sat_eqv ?_ ?_); rfl; conv => arg 3; whnf))
  refine sat_call (k_take r k (by omega)) ?_
  unfold Rd.fixed
  generalize (r.take k).2 = L at *
  generalize (r.take k).1 = R at *
  rintro v H' (⟨-, -, rfl, rfl⟩ | ⟨h, rfl, rfl⟩)
  · (conv => arg 3; whnf); repeat (first | ((with_reducible refine sat_brT ?_ ?_); rfl; conv => arg 3; whnf) | ((with_reducible refine sat_brF ?_ ?_); rfl; conv => arg 3; whnf) | ((with_reducible refine sat_eqv ?_ ?_); rfl; conv => arg 3; whnf))
    refine sat_rng (wrap64 (by omega) (by omega)) ?_
    (conv => arg 3; whnf); repeat (first | ((with_reducible refine sat_brT ?_ ?_); rfl; conv => arg 3; whnf) | ((with_reducible refine sat_brF ?_ ?_); rfl; conv => arg 3; whnf) | ((with_reducible refine sat_eqv ?_ ?_); rfl; conv => arg 3; whnf))
    refine sat_loopOf mkX_ops (σ := FiSt L) (fun x => [(5, tu x.v), (6, .bz 1 L), (7, ti ((x.i : Int) - 1))]) (fun x => []) (fun x => x.i)
      (fun ex fr' H' => H' = [] ∧ ex = .exit 0 ∧ fr' = [(5, tu (valB L))]) ⟨L.length, 0, by simp [valB], Nat.le_refl _⟩ ?_ ?_
    · rintro ⟨i, v, hv, hi⟩
      dsimp only
      (conv => arg 3; whnf); repeat (first | ((with_reducible refine sat_brT ?_ ?_); rfl; conv => arg 3; whnf) | ((with_reducible refine sat_brF ?_ ?_); rfl; conv => arg 3; whnf) | ((with_reducible refine sat_eqv ?_ ?_); rfl; conv => arg 3; whnf))
      refine sat_br (fun h => ?_) (fun h => ?_)
      · have h := of_decide_eq_true h
        obtain ⟨i, rfl⟩ : ∃ j, i = j + 1 := ⟨i - 1, by omega⟩
        obtain ⟨x, hx, hx0⟩ := t2.get (show i < L.length by omega)
        have hdr : L.drop i = u8 x :: L.drop (i + 1) := by
          rw [List.drop_eq_getElem_cons (show i < L.length by omega)]
          congr 1
          rw [List.getElem?_eq_getElem (show i < L.length by omega)] at hx
          exact Option.some.inj hx
        have hrg := valB_range (L.drop (i + 1)) (t2.drop _)
        have hp : (256 : Int) ^ (L.drop (i + 1)).length ≤ 256 ^ 7 := pow256 (by rw [List.length_drop]; omega)
        have hp' : (256 : Int) ^ 7 = 72057594037927936 := by decide
        rw [← hv] at hrg
        (conv => arg 3; whnf); repeat (first | ((with_reducible refine sat_brT ?_ ?_); rfl; conv => arg 3; whnf) | ((with_reducible refine sat_brF ?_ ?_); rfl; conv => arg 3; whnf) | ((with_reducible refine sat_eqv ?_ ?_); rfl; conv => arg 3; whnf))
        refine sat_asrt rfl ?_
        (conv => arg 3; whnf); repeat (first | ((with_reducible refine sat_brT ?_ ?_); rfl; conv => arg 3; whnf) | ((with_reducible refine sat_brF ?_ ?_); rfl; conv => arg 3; whnf) | ((with_reducible refine sat_eqv ?_ ?_); rfl; conv => arg 3; whnf))
        rw [show (2 : Int) ^ min (Int.toNat 8) (IntKind.bits .u64) = 2 ^ 8 by decide]
        refine sat_rng (by rw [IntKind.wrap_u64]; omega) ?_
        (conv => arg 3; whnf); repeat (first | ((with_reducible refine sat_brT ?_ ?_); rfl; conv => arg 3; whnf) | ((with_reducible refine sat_brF ?_ ?_); rfl; conv => arg 3; whnf) | ((with_reducible refine sat_eqv ?_ ?_); rfl; conv => arg 3; whnf))
        refine sat_idx (u8 x) (by omega) (by rw [show ((((i + 1 : Nat) : Int) - 1)).toNat = i by omega]; exact hx) ?_
        (conv => arg 3; whnf); repeat (first | ((with_reducible refine sat_brT ?_ ?_); rfl; conv => arg 3; whnf) | ((with_reducible refine sat_brF ?_ ?_); rfl; conv => arg 3; whnf) | ((with_reducible refine sat_eqv ?_ ?_); rfl; conv => arg 3; whnf))
        refine sat_rng (by rw [IntKind.wrap_u64]; omega) ?_
        (conv => arg 3; whnf); repeat (first | ((with_reducible refine sat_brT ?_ ?_); rfl; conv => arg 3; whnf) | ((with_reducible refine sat_brF ?_ ?_); rfl; conv => arg 3; whnf) | ((with_reducible refine sat_eqv ?_ ?_); rfl; conv => arg 3; whnf))
        rw [or_u64 hx0 (by omega) (by omega)]
        rw [show (((i + 1 : Nat) : Int) - 1 - 1) = (i : Int) - 1 by omega]
        refine sat_rng (wrap64 (by omega) (by omega)) ?_
        refine sat_ret ⟨⟨i, x + v * 256, by rw [hdr, valB_cons, ← hv]; omega, by omega⟩, rfl, rfl, by show i < i + 1; omega⟩
      · have h := of_decide_eq_false h
        obtain rfl : i = 0 := by omega
        rw [List.drop_zero] at hv
        exact sat_ret ⟨rfl, rfl, by rw [hv]; rfl⟩
    · rintro ex fr' H' ⟨rfl, rfl, rfl⟩
      (conv => arg 3; whnf); repeat (first | ((with_reducible refine sat_brT ?_ ?_); rfl; conv => arg 3; whnf) | ((with_reducible refine sat_brF ?_ ?_); rfl; conv => arg 3; whnf) | ((with_reducible refine sat_eqv ?_ ?_); rfl; conv => arg 3; whnf))
      exact sat_ret ⟨rfl, rfl⟩
  · subst h
    (conv => arg 3; whnf); repeat (first | ((with_reducible refine sat_brT ?_ ?_); rfl; conv => arg 3; whnf) | ((with_reducible refine sat_brF ?_ ?_); rfl; conv => arg 3; whnf) | ((with_reducible refine sat_eqv ?_ ?_); rfl; conv => arg 3; whnf))
    refine sat_rng (wrap64 (by omega) (by omega)) ?_
    (conv => arg 3; whnf); repeat (first | ((with_reducible refine sat_brT ?_ ?_); rfl; conv => arg 3; whnf) | ((with_reducible refine sat_brF ?_ ?_); rfl; conv => arg 3; whnf) | ((with_reducible refine sat_eqv ?_ ?_); rfl; conv => arg 3; whnf))
    refine sat_loopOf mkX_ops (σ := Unit) (fun x => [(5, tu 0), (6, .sl 0 0 [] 0 0 none), (7, ti (-1))]) (fun x => [.row 1 []]) (fun x => 0)
      (fun ex fr' H' => H' = [.row 1 []] ∧ ex = .exit 0 ∧ fr' = [(5, tu 0)]) () ?_ ?_
    · rintro ⟨⟩
      (conv => arg 3; whnf); repeat (first | ((with_reducible refine sat_brT ?_ ?_); rfl; conv => arg 3; whnf) | ((with_reducible refine sat_brF ?_ ?_); rfl; conv => arg 3; whnf) | ((with_reducible refine sat_eqv ?_ ?_); rfl; conv => arg 3; whnf))
      exact sat_ret ⟨rfl, rfl, rfl⟩
    · rintro ex fr' H' ⟨rfl, rfl, rfl⟩
      (conv => arg 3; whnf); repeat (first | ((with_reducible refine sat_brT ?_ ?_); rfl; conv => arg 3; whnf) | ((with_reducible refine sat_brF ?_ ?_); rfl; conv => arg 3; whnf) | ((with_reducible refine sat_eqv ?_ ?_); rfl; conv => arg 3; whnf))
      exact sat_ret ⟨rfl, rfl⟩
theorem Rd.fixed_b {r : Rd} (h : AllB r.b) (k : Nat) (hk : k ≤ 8) : AllB (r.fixed k).1.b ∧ (0 ≤ (r.fixed k).2 ∧ (r.fixed k).2 < 256 ^ k) ∧ (r.fixed k).1.b.length ≤ r.b.length := by
  obtain ⟨t1, t2, t3, t4⟩ := Rd.take_b h k
  have hrg := valB_range _ t2
  have hp := pow256 t3
  exact ⟨t1, ⟨hrg.1, by show valB _ < _; omega⟩, t4⟩
def Rd.num (r : Rd) : Rd × Int := ((r.fixed 8).1, IntKind.wrap .i64 (r.fixed 8).2)
theorem k_rnum (r : Rd) (hr : AllB r.b) : ACalls PP GG F.pack_reader_number [pt 0] [r.v] fun v H' => v = ti r.num.2 ∧ H' = [r.num.1.v] := by
  refine K.pack_reader_number.callsC rfl ?_
  (conv => arg 3; whnf); repeat (first | ((with_reducible refine sat_brT ?_ ?_); rfl; conv => arg 3; whnf) | ((with_reducible refine sat_brF ?_ ?_); rfl; conv => arg 3; whnf) | ((with_reducible refine sat_eqv ?_ ?_); rfl; conv => arg 3; whnf))
  refine sat_call (k_rfixed r hr 8 (by omega)) ?_
  rintro v H' ⟨rfl, rfl⟩
  (conv => arg 3; whnf); repeat (first | ((with_reducible refine sat_brT ?_ ?_); rfl; conv => arg 3; whnf) | ((with_reducible refine sat_brF ?_ ?_); rfl; conv => arg 3; whnf) | ((with_reducible refine sat_eqv ?_ ?_); rfl; conv => arg 3; whnf))
  refine sat_rngw ?_
  (conv => arg 3; whnf); repeat (first | ((with_reducible refine sat_brT ?_ ?_); rfl; conv => arg 3; whnf) | ((with_reducible refine sat_brF ?_ ?_); rfl; conv => arg 3; whnf) | ((with_reducible refine sat_eqv ?_ ?_); rfl; conv => arg 3; whnf))
  exact sat_ret ⟨rfl, rfl⟩
def Rd.mark (r : Rd) : Rd × Bool := (if (r.fixed 1).2 > 1 then { (r.fixed 1).1 with e := 5 } else (r.fixed 1).1, (r.fixed 1).2 == 1)
theorem k_rmk (r : Rd) (hr : AllB r.b) : ACalls PP GG F.pack_reader_mark [pt 0] [r.v] fun v H' => v = tb r.mark.2 ∧ H' = [r.mark.1.v] := by
  refine K.pack_reader_mark.callsC rfl ?_
  (conv => arg 3; whnf); repeat (first | ((with_reducible refine sat_brT ?_ ?_); rfl; conv => arg 3; whnf) | ((with_reducible refine sat_brF ?_ ?_); rfl; conv => arg 3; whnf) | ((with_reducible refine sat_eqv ?_ ?_); rfl; conv => arg 3; whnf))
  refine sat_call (k_rfixed r hr 1 (by omega)) ?_
  rintro v H' ⟨rfl, rfl⟩
  (conv => arg 3; whnf); repeat (first | ((with_reducible refine sat_brT ?_ ?_); rfl; conv => arg 3; whnf) | ((with_reducible refine sat_brF ?_ ?_); rfl; conv => arg 3; whnf) | ((with_reducible refine sat_eqv ?_ ?_); rfl; conv => arg 3; whnf))
  refine sat_br (fun h => ?_) (fun h => ?_)
  · have h := of_decide_eq_true h
    (conv => arg 3; whnf); repeat (first | ((with_reducible refine sat_brT ?_ ?_); rfl; conv => arg 3; whnf) | ((with_reducible refine sat_brF ?_ ?_); rfl; conv => arg 3; whnf) | ((with_reducible refine sat_eqv ?_ ?_); rfl; conv => arg 3; whnf))
    exact sat_ret ⟨rfl, by unfold Rd.mark; rw [if_pos h]⟩
  · have h := of_decide_eq_false h
    (conv => arg 3; whnf); repeat (first | ((with_reducible refine sat_brT ?_ ?_); rfl; conv => arg 3; whnf) | ((with_reducible refine sat_brF ?_ ?_); rfl; conv => arg 3; whnf) | ((with_reducible refine sat_eqv ?_ ?_); rfl; conv => arg 3; whnf))
    exact sat_ret ⟨rfl, by unfold Rd.mark; rw [if_neg h]⟩
def Rd.count (r : Rd) (most : Nat) : Rd × Nat := if (r.fixed 4).2 > most then ({ (r.fixed 4).1 with e := 5 }, 0) else ((r.fixed 4).1, (r.fixed 4).2.toNat)
theorem k_rcount (r : Rd) (hr : AllB r.b) (most : Nat) (hm : most ≤ 65536) : ACalls PP GG F.pack_reader_count [pt 0, ti most] [r.v] fun v H' => v = ti (r.count most).2 ∧ H' = [(r.count most).1.v] := by
  have hf := (Rd.fixed_b hr 4 (by omega)).2.1
  refine K.pack_reader_count.callsC rfl ?_
  (conv => arg 3; whnf); repeat (first | ((with_reducible refine sat_brT ?_ ?_); rfl; conv => arg 3; whnf) | ((with_reducible refine sat_brF ?_ ?_); rfl; conv => arg 3; whnf) | ((with_reducible refine sat_eqv ?_ ?_); rfl; conv => arg 3; whnf))
  refine sat_call (k_rfixed r hr 4 (by omega)) ?_
  rintro v H' ⟨rfl, rfl⟩
  (conv => arg 3; whnf); repeat (first | ((with_reducible refine sat_brT ?_ ?_); rfl; conv => arg 3; whnf) | ((with_reducible refine sat_brF ?_ ?_); rfl; conv => arg 3; whnf) | ((with_reducible refine sat_eqv ?_ ?_); rfl; conv => arg 3; whnf))
  refine sat_rng (by rw [IntKind.wrap_u64]; omega) ?_
  (conv => arg 3; whnf); repeat (first | ((with_reducible refine sat_brT ?_ ?_); rfl; conv => arg 3; whnf) | ((with_reducible refine sat_brF ?_ ?_); rfl; conv => arg 3; whnf) | ((with_reducible refine sat_eqv ?_ ?_); rfl; conv => arg 3; whnf))
  refine sat_br (fun h => ?_) (fun h => ?_)
  · have h := of_decide_eq_true h
    (conv => arg 3; whnf); repeat (first | ((with_reducible refine sat_brT ?_ ?_); rfl; conv => arg 3; whnf) | ((with_reducible refine sat_brF ?_ ?_); rfl; conv => arg 3; whnf) | ((with_reducible refine sat_eqv ?_ ?_); rfl; conv => arg 3; whnf))
    exact sat_ret ⟨by unfold Rd.count; rw [if_pos h]; rfl, by unfold Rd.count; rw [if_pos h]⟩
  · have h := of_decide_eq_false h
    (conv => arg 3; whnf); repeat (first | ((with_reducible refine sat_brT ?_ ?_); rfl; conv => arg 3; whnf) | ((with_reducible refine sat_brF ?_ ?_); rfl; conv => arg 3; whnf) | ((with_reducible refine sat_eqv ?_ ?_); rfl; conv => arg 3; whnf))
    refine sat_rng (wrap64 (by omega) (by omega)) ?_
    refine sat_ret ⟨?_, by unfold Rd.count; rw [if_neg h]⟩
    unfold Rd.count
    rw [if_neg h]
    show ti _ = ti ((r.fixed 4).2.toNat : Int)
    rw [Int.toNat_of_nonneg hf.1]
theorem Rd.count_b {r : Rd} (h : AllB r.b) (most : Nat) : AllB (r.count most).1.b ∧ (r.count most).2 ≤ most ∧ (r.count most).1.b.length ≤ r.b.length := by
  obtain ⟨t1, t2, t3⟩ := Rd.fixed_b h 4 (by omega)
  unfold Rd.count
  split
  · exact ⟨t1, by simp, t3⟩
  · exact ⟨t1, by show (r.fixed 4).2.toNat ≤ _; omega, t3⟩
theorem Rd.mark_b {r : Rd} (h : AllB r.b) : AllB r.mark.1.b ∧ r.mark.1.b.length ≤ r.b.length := by
  obtain ⟨t1, t2, t3⟩ := Rd.fixed_b h 1 (by omega)
  unfold Rd.mark
  split <;> exact ⟨t1, t3⟩
def Rd.data (r : Rd) : Rd × List Tr := (r.count 65536).1.take (r.count 65536).2
theorem k_rdata (r : Rd) (hr : AllB r.b) : ACalls PP GG F.pack_reader_data [pt 0] [r.v] fun v H' => v = .sl 1 0 [] 0 r.data.2.length none ∧ H' = [r.data.1.v, .row 1 r.data.2] := by
  obtain ⟨c1, c2, c3⟩ := Rd.count_b hr 65536
  obtain ⟨t1, t2, t3, t4⟩ := Rd.take_b c1 (r.count 65536).2
  refine K.pack_reader_data.callsC rfl ?_
  (conv => arg 3; whnf); repeat (first | ((with_reducible refine sat_brT ?_ ?_); rfl; conv => arg 3; whnf) | ((with_reducible refine sat_brF ?_ ?_); rfl; conv => arg 3; whnf) | ((with_reducible refine sat_eqv ?_ ?_); rfl; conv => arg 3; whnf))
  refine sat_call (k_rcount r hr 65536 (by omega)) ?_
  rintro v H' ⟨rfl, rfl⟩
  (conv => arg 3; whnf); repeat (first | ((with_reducible refine sat_brT ?_ ?_); rfl; conv => arg 3; whnf) | ((with_reducible refine sat_brF ?_ ?_); rfl; conv => arg 3; whnf) | ((with_reducible refine sat_eqv ?_ ?_); rfl; conv => arg 3; whnf))
  refine sat_call (k_take _ _ (by omega)) ?_
  unfold Rd.data
  generalize ((r.count 65536).1.take (r.count 65536).2).2 = L at *
  generalize ((r.count 65536).1.take (r.count 65536).2).1 = R at *
  rintro v H' (⟨-, -, rfl, rfl⟩ | ⟨h, rfl, rfl⟩)
  · (conv => arg 3; whnf); repeat (first | ((with_reducible refine sat_brT ?_ ?_); rfl; conv => arg 3; whnf) | ((with_reducible refine sat_brF ?_ ?_); rfl; conv => arg 3; whnf) | ((with_reducible refine sat_eqv ?_ ?_); rfl; conv => arg 3; whnf))
    refine sat_call (k_clone L (by omega)) ?_
    rintro v H' ⟨rfl, rfl⟩
    (conv => arg 3; whnf); repeat (first | ((with_reducible refine sat_brT ?_ ?_); rfl; conv => arg 3; whnf) | ((with_reducible refine sat_brF ?_ ?_); rfl; conv => arg 3; whnf) | ((with_reducible refine sat_eqv ?_ ?_); rfl; conv => arg 3; whnf))
    exact sat_ret ⟨rfl, rfl⟩
  · subst h
    (conv => arg 3; whnf); repeat (first | ((with_reducible refine sat_brT ?_ ?_); rfl; conv => arg 3; whnf) | ((with_reducible refine sat_brF ?_ ?_); rfl; conv => arg 3; whnf) | ((with_reducible refine sat_eqv ?_ ?_); rfl; conv => arg 3; whnf))
    refine sat_call (k_clone [] (by simp)) ?_
    rintro v H' ⟨rfl, rfl⟩
    (conv => arg 3; whnf); repeat (first | ((with_reducible refine sat_brT ?_ ?_); rfl; conv => arg 3; whnf) | ((with_reducible refine sat_brF ?_ ?_); rfl; conv => arg 3; whnf) | ((with_reducible refine sat_eqv ?_ ?_); rfl; conv => arg 3; whnf))
    exact sat_ret ⟨rfl, rfl⟩
def z32 : List Tr := List.replicate 32 (u8 0)
def Rd.hash (r : Rd) : Rd × List Tr := ((r.take 32).1, if (r.take 32).2.length = 32 then (r.take 32).2 else z32)
theorem Rd.hash_b {r : Rd} (h : AllB r.b) : AllB r.hash.1.b ∧ AllB r.hash.2 ∧ r.hash.2.length = 32 ∧ r.hash.1.b.length ≤ r.b.length := by
  obtain ⟨t1, t2, t3, t4⟩ := Rd.take_b h 32
  unfold Rd.hash
  split
  · rename_i hq; exact ⟨t1, t2, hq, t4⟩
  · exact ⟨t1, fun y hy => ⟨0, List.eq_of_mem_replicate hy, by omega⟩, by simp [z32], t4⟩
theorem Rd.take_len {r : Rd} (n : Nat) : (r.take n).2 = [] ∨ (r.take n).2.length = n := by
  unfold Rd.take
  split
  · exact .inl rfl
  · split
    · exact .inl rfl
    · rename_i h; right; show (r.b.take n).length = n; rw [List.length_take]; omega
theorem Rd.take_ok {r : Rd} {n : Nat} (h : r.e = 0) (hn : n ≤ r.b.length) : (r.take n).2.length = n := by
  unfold Rd.take
  rw [if_neg (by simp [h]), if_neg (by omega)]
  show (r.b.take n).length = n
  rw [List.length_take]; omega
theorem AllB.noAgg {xs : List Tr} (h : AllB xs) : xs.any Tr.isAgg = false := by
  rw [List.any_eq_false]
  intro y hy
  obtain ⟨v, rfl, _⟩ := h y hy
  simp [Tr.isAgg]
theorem k_rhash (r : Rd) (hr : AllB r.b) : ACalls PP GG F.pack_reader_hash [pt 0] [r.v] fun v H' => v = .t (.arr 32 r.hash.2) ∧ H' = [r.hash.1.v] := by
  obtain ⟨t1, t2, t3, t4⟩ := Rd.take_b hr 32
  have tok := Rd.take_ok (r := r) (n := 32)
  refine K.pack_reader_hash.callsC rfl ?_
  (conv => arg 3; whnf); repeat (first | ((with_reducible refine sat_brT ?_ ?_); rfl; conv => arg 3; whnf) | ((with_reducible refine sat_brF ?_ ?_); rfl; conv => arg 3; whnf) | ((with_reducible refine sat_eqv ?_ ?_); rfl; conv => arg 3; whnf))
  refine sat_call (k_take r 32 (by omega)) ?_
  unfold Rd.hash
  generalize hLL : (r.take 32).2 = L at *
  generalize (r.take 32).1 = R at *
  rintro v H' (⟨he, hn, rfl, rfl⟩ | ⟨h, rfl, rfl⟩)
  · have hl := tok he hn
    (conv => arg 3; whnf); repeat (first | ((with_reducible refine sat_brT ?_ ?_); rfl; conv => arg 3; whnf) | ((with_reducible refine sat_brF ?_ ?_); rfl; conv => arg 3; whnf) | ((with_reducible refine sat_eqv ?_ ?_); rfl; conv => arg 3; whnf))
    have e1 : List.take (32 - 0) L = L := List.take_of_length_le (by omega)
    rw [e1]
    refine sat_asrt (by rw [t2.noAgg]; simp; omega) ?_
    (conv => arg 3; whnf); repeat (first | ((with_reducible refine sat_brT ?_ ?_); rfl; conv => arg 3; whnf) | ((with_reducible refine sat_brF ?_ ?_); rfl; conv => arg 3; whnf) | ((with_reducible refine sat_eqv ?_ ?_); rfl; conv => arg 3; whnf))
    refine sat_ret ⟨?_, rfl⟩
    rw [if_pos hl]
    show AV.t (.arr 32 (List.take 0 (List.replicate 32 _) ++ L ++ List.drop (0 + L.length) (List.replicate 32 _))) = _
    rw [List.take_zero, List.nil_append, List.drop_of_length_le (by rw [List.length_replicate]; omega), List.append_nil]
  · subst h
    (conv => arg 3; whnf); repeat (first | ((with_reducible refine sat_brT ?_ ?_); rfl; conv => arg 3; whnf) | ((with_reducible refine sat_brF ?_ ?_); rfl; conv => arg 3; whnf) | ((with_reducible refine sat_eqv ?_ ?_); rfl; conv => arg 3; whnf))
    refine sat_asrt (by first | rfl | (simp; done) | (simp; omega)) ?_
    (conv => arg 3; whnf); repeat (first | ((with_reducible refine sat_brT ?_ ?_); rfl; conv => arg 3; whnf) | ((with_reducible refine sat_brF ?_ ?_); rfl; conv => arg 3; whnf) | ((with_reducible refine sat_eqv ?_ ?_); rfl; conv => arg 3; whnf))
    exact sat_ret ⟨rfl, rfl⟩
end Stk
