/- ImageKnown: the law's contract. -/
import Derived.Test.YtcjmkbmeiefojaaN0
namespace Stk
open Go
set_option maxRecDepth 100000
set_option linter.unusedSimpArgs false
set_option linter.unusedVariables false
set_option maxHeartbeats 4000000
abbrev rowsL (s1 s2 : ByteArray) : List Tr := [Tr.agg [Tr.str { data := #[0, 0, 0] }, Tr.int IntKind.i64 0],
            Tr.agg [Tr.str { data := #[0, 0] }, Tr.int IntKind.i64 4],
            Tr.agg [Tr.str { data := #[5] }, Tr.int IntKind.i64 5],
            Tr.agg [Tr.str { data := #[0, 1, 0] }, Tr.int IntKind.i64 4],
            Tr.agg [Tr.str { data := #[0, 0, 0, 0] }, Tr.int IntKind.i64 5],
            Tr.agg [Tr.str { data := #[] }, Tr.int IntKind.i64 4],
            Tr.agg [Tr.str { data := #[0, 1, 2] }, Tr.int IntKind.i64 5],
            Tr.agg [Tr.str { data := #[4, 1] }, Tr.int IntKind.i64 4], Tr.agg [Tr.str s1, Tr.int IntKind.i64 3],
            Tr.agg [Tr.str s2, Tr.int IntKind.i64 5]]
theorem z_ok {a b : Nat} (ha : a ≤ 1000) (hb : b ≤ 1000) : Im.OK ⟨true, List.replicate a (mapT 0 0 0 0), true, List.replicate b (insT 0 0 0 0 0)⟩ :=
  ⟨zM a, zC b, by show (List.replicate _ _).length ≤ _; rw [List.length_replicate]; omega, by show (List.replicate _ _).length ≤ _; rw [List.length_replicate]; omega⟩
instance (a : Int) : Decidable (in64 a) := by unfold in64; infer_instance
def okM : Tr → Bool
  | .agg [.int .i64 a, .int .i64 b, .int .i64 c, .int .i64 d] => decide (in64 a ∧ in64 b ∧ in64 c ∧ in64 d)
  | _ => false
def okC : Tr → Bool
  | .agg [.int .u8 o, .int .u8 d, .int .u8 s, .int .i16 f, .int .i32 m] => decide ((0 ≤ o ∧ o ≤ 255) ∧ (0 ≤ d ∧ d ≤ 255) ∧ (0 ≤ s ∧ s ≤ 255) ∧ (-32768 ≤ f ∧ f ≤ 32767) ∧ (-2147483648 ≤ m ∧ m ≤ 2147483647))
  | _ => false
theorem one_ok {A B : List Tr} (ha : A.length ≤ 1 ∧ A.all okM = true) (hb : B.length ≤ 1 ∧ B.all okC = true) : Im.OK ⟨true, A, true, B⟩ := by
  refine ⟨fun y hy => ?_, fun y hy => ?_, by show A.length ≤ _; omega, by show B.length ≤ _; omega⟩
  · have := List.all_eq_true.1 ha.2 y hy
    unfold okM at this
    split at this
    · exact ⟨_, _, _, _, rfl, of_decide_eq_true this⟩
    · cases this
  · have := List.all_eq_true.1 hb.2 y hy
    unfold okC at this
    split at this
    · have := of_decide_eq_true this
      exact ⟨_, _, _, _, _, rfl, ⟨this.1, this.2.1, this.2.2.1, this.2.2.2.1, this.2.2.2.2⟩⟩
    · cases this
structure KnSt where
  i : Nat
  im : i ≤ 10
theorem l_known : ACalls PP GG F.law16_ImageKnown (toAVs []) [] fun r _ => r = .t (.bool true) := by
  refine K.law16_ImageKnown.calls rfl ?_
  (conv => arg 3; whnf); repeat (first | ((with_reducible refine sat_brT ?_ ?_); rfl; conv => arg 3; whnf) | ((with_reducible refine sat_brF ?_ ?_); rfl; conv => arg 3; whnf) | ((with_reducible refine sat_eqv ?_ ?_); rfl; conv => arg 3; whnf))
  refine sat_any ?_ ?_
  · (conv => arg 3; whnf); repeat (first | ((with_reducible refine sat_brT ?_ ?_); rfl; conv => arg 3; whnf) | ((with_reducible refine sat_brF ?_ ?_); rfl; conv => arg 3; whnf) | ((with_reducible refine sat_eqv ?_ ?_); rfl; conv => arg 3; whnf))
    refine sat_asrt (by decide) ?_
    (conv => arg 3; whnf); repeat (first | ((with_reducible refine sat_brT ?_ ?_); rfl; conv => arg 3; whnf) | ((with_reducible refine sat_brF ?_ ?_); rfl; conv => arg 3; whnf) | ((with_reducible refine sat_eqv ?_ ?_); rfl; conv => arg 3; whnf))
    have t1 := zt (Int.toNat 65537) (Tr.int .u8 0)
    have y1 := zb (Int.toNat 65537)
    generalize hZ1 : List.replicate (Int.toNat 65537) (Tr.int .u8 0) = Z1 at t1 y1 ⊢
    rw [t1]
    refine sat_asrt y1 ?_
    (conv => arg 3; whnf); repeat (first | ((with_reducible refine sat_brT ?_ ?_); rfl; conv => arg 3; whnf) | ((with_reducible refine sat_brF ?_ ?_); rfl; conv => arg 3; whnf) | ((with_reducible refine sat_eqv ?_ ?_); rfl; conv => arg 3; whnf))
    refine sat_asrt (by decide) ?_
    (conv => arg 3; whnf); repeat (first | ((with_reducible refine sat_brT ?_ ?_); rfl; conv => arg 3; whnf) | ((with_reducible refine sat_brF ?_ ?_); rfl; conv => arg 3; whnf) | ((with_reducible refine sat_eqv ?_ ?_); rfl; conv => arg 3; whnf))
    rw [t1]
    refine sat_asrt y1 ?_
    (conv => arg 3; whnf); repeat (first | ((with_reducible refine sat_brT ?_ ?_); rfl; conv => arg 3; whnf) | ((with_reducible refine sat_brF ?_ ?_); rfl; conv => arg 3; whnf) | ((with_reducible refine sat_eqv ?_ ?_); rfl; conv => arg 3; whnf))
    have t2 := zt (Int.toNat 65536) (Tr.int .u8 0)
    have y2 := zb (Int.toNat 65536)
    generalize hZ2 : List.replicate (Int.toNat 65536) (Tr.int .u8 0) = Z2 at t2 y2 ⊢
    repeat (first | (rw [t1]; (refine sat_asrt y1 ?_); (conv => arg 3; whnf); repeat (first | ((with_reducible refine sat_brT ?_ ?_); rfl; conv => arg 3; whnf) | ((with_reducible refine sat_brF ?_ ?_); rfl; conv => arg 3; whnf) | ((with_reducible refine sat_eqv ?_ ?_); rfl; conv => arg 3; whnf))) | (rw [t2]; (refine sat_asrt y2 ?_); (conv => arg 3; whnf); repeat (first | ((with_reducible refine sat_brT ?_ ?_); rfl; conv => arg 3; whnf) | ((with_reducible refine sat_brF ?_ ?_); rfl; conv => arg 3; whnf) | ((with_reducible refine sat_eqv ?_ ?_); rfl; conv => arg 3; whnf))))
    have rows := rows_ok hZ1 hZ2
    clear hZ1 hZ2 t1 t2 y1 y2
    generalize strOf Z1 = s1 at rows ⊢
    generalize strOf Z2 = s2 at rows ⊢
    refine sat_loopOf mkX_ops (σ := KnSt) (fun s => [(31, .sl 0 0 [] 0 10 (some 10)), (32, ti 10), (33, ti s.i)]) (fun s => [.row 2 (rowsL s1 s2)]) (fun s => 10 - s.i)
      (fun ex fr' H' => ex = .exit 0 ∧ fr' = [(0, .undef)] ∧ H' = [.row 2 (rowsL s1 s2)]) ⟨0, by omega⟩ ?_ ?_
    · rintro ⟨i, im⟩
      dsimp only
      refine sat_br (fun hi => ?_) (fun hi => ?_)
      · have hi : i < 10 := by have := of_decide_eq_true hi; omega
        have hlen : (rowsL s1 s2).length = 10 := rfl
        obtain ⟨s, e, hy, hd, hb, hl⟩ := (rows _ (List.getElem_mem (show i < (rowsL s1 s2).length by omega))).h
        have hg : (rowsL s1 s2)[i]? = some (.agg [.str s, .int .i64 e]) := by rw [List.getElem?_eq_getElem (by omega), hy]
        generalize rowsL s1 s2 = XS at hg hlen ⊢
        (conv => arg 3; whnf); repeat (first | ((with_reducible refine sat_brT ?_ ?_); rfl; conv => arg 3; whnf) | ((with_reducible refine sat_brF ?_ ?_); rfl; conv => arg 3; whnf) | ((with_reducible refine sat_eqv ?_ ?_); rfl; conv => arg 3; whnf))
        refine sat_asrt (decide_eq_true (by omega)) ?_
        (conv => arg 3; whnf); repeat (first | ((with_reducible refine sat_brT ?_ ?_); rfl; conv => arg 3; whnf) | ((with_reducible refine sat_brF ?_ ?_); rfl; conv => arg 3; whnf) | ((with_reducible refine sat_eqv ?_ ?_); rfl; conv => arg 3; whnf))
        refine sat_idx _ (by simp) (by simpa using hg) ?_
        (conv => arg 3; whnf); repeat (first | ((with_reducible refine sat_brT ?_ ?_); rfl; conv => arg 3; whnf) | ((with_reducible refine sat_brF ?_ ?_); rfl; conv => arg 3; whnf) | ((with_reducible refine sat_eqv ?_ ?_); rfl; conv => arg 3; whnf))
        rw [List.drop_zero, List.take_length]
        have kd := k_decode _ hb hl
        rw [hd] at kd
        refine sat_call kd ?_
        rintro r H' ⟨rfl, rfl⟩
        (conv => arg 3; whnf); repeat (first | ((with_reducible refine sat_brT ?_ ?_); rfl; conv => arg 3; whnf) | ((with_reducible refine sat_brF ?_ ?_); rfl; conv => arg 3; whnf) | ((with_reducible refine sat_eqv ?_ ?_); rfl; conv => arg 3; whnf))
        repeat (first | ((refine sat_brF (by simp) ?_); (conv => arg 3; whnf); repeat (first | ((with_reducible refine sat_brT ?_ ?_); rfl; conv => arg 3; whnf) | ((with_reducible refine sat_brF ?_ ?_); rfl; conv => arg 3; whnf) | ((with_reducible refine sat_eqv ?_ ?_); rfl; conv => arg 3; whnf))) | ((with_reducible refine sat_rng ?_ ?_); (exact wrap64 (by omega) (by omega)); (conv => arg 3; whnf); repeat (first | ((with_reducible refine sat_brT ?_ ?_); rfl; conv => arg 3; whnf) | ((with_reducible refine sat_brF ?_ ?_); rfl; conv => arg 3; whnf) | ((with_reducible refine sat_eqv ?_ ?_); rfl; conv => arg 3; whnf))))
        exact sat_ret ⟨⟨i + 1, hi⟩, rfl, rfl, by show 10 - (i + 1) < 10 - i; omega⟩
      · refine sat_ret ?_
        exact ⟨rfl, rfl, rfl⟩
    · rintro ex fr' H' ⟨rfl, rfl, rfl⟩
      (conv => arg 3; whnf); repeat (first | ((with_reducible refine sat_brT ?_ ?_); rfl; conv => arg 3; whnf) | ((with_reducible refine sat_brF ?_ ?_); rfl; conv => arg 3; whnf) | ((with_reducible refine sat_eqv ?_ ?_); rfl; conv => arg 3; whnf))
      refine sat_any ?_ ?_
      all_goals
        (conv => arg 3; whnf); repeat (first | ((with_reducible refine sat_brT ?_ ?_); rfl; conv => arg 3; whnf) | ((with_reducible refine sat_brF ?_ ?_); rfl; conv => arg 3; whnf) | ((with_reducible refine sat_eqv ?_ ?_); rfl; conv => arg 3; whnf))
        refine sat_asrt (by decide) ?_
        (conv => arg 3; whnf); repeat (first | ((with_reducible refine sat_brT ?_ ?_); rfl; conv => arg 3; whnf) | ((with_reducible refine sat_brF ?_ ?_); rfl; conv => arg 3; whnf) | ((with_reducible refine sat_eqv ?_ ?_); rfl; conv => arg 3; whnf))
        refine sat_asrt (by decide) ?_
        (conv => arg 3; whnf); repeat (first | ((with_reducible refine sat_brT ?_ ?_); rfl; conv => arg 3; whnf) | ((with_reducible refine sat_brF ?_ ?_); rfl; conv => arg 3; whnf) | ((with_reducible refine sat_eqv ?_ ?_); rfl; conv => arg 3; whnf))
        rw [zt, zt]
        refine sat_call (k_encode ⟨true, List.replicate (Int.toNat 4) (mapT 0 0 0 0), true, List.replicate (Int.toNat 512) (insT 0 0 0 0 0)⟩ (z_ok (by decide) (by decide))) ?_
        rintro r H' ⟨⟨c, rfl, _⟩, rfl⟩
        obtain ⟨q1, q2⟩ := enc_zeros (a := Int.toNat 4) (b := Int.toNat 512) (by decide) (by decide)
        rw [q1]
        generalize (Im.enc ⟨true, List.replicate (Int.toNat 4) (mapT 0 0 0 0), true, List.replicate (Int.toNat 512) (insT 0 0 0 0 0)⟩).1 = E1 at q2 ⊢
        rw [q2]
        (conv => arg 3; whnf); repeat (first | ((with_reducible refine sat_brT ?_ ?_); rfl; conv => arg 3; whnf) | ((with_reducible refine sat_brF ?_ ?_); rfl; conv => arg 3; whnf) | ((with_reducible refine sat_eqv ?_ ?_); rfl; conv => arg 3; whnf))
        refine sat_asrt (by decide) ?_
        (conv => arg 3; whnf); repeat (first | ((with_reducible refine sat_brT ?_ ?_); rfl; conv => arg 3; whnf) | ((with_reducible refine sat_brF ?_ ?_); rfl; conv => arg 3; whnf) | ((with_reducible refine sat_eqv ?_ ?_); rfl; conv => arg 3; whnf))
        rw [zt]
        refine sat_call (k_encode ⟨true, List.replicate (Int.toNat 5) (mapT 0 0 0 0), true, []⟩ (z_ok (b := 0) (by decide) (by decide))) ?_
        rintro r H' ⟨⟨c1, rfl, _⟩, rfl⟩
        rw [enc_large (.inl (by show (List.replicate _ _).length > 4; rw [List.length_replicate]; decide))]
        (conv => arg 3; whnf); repeat (first | ((with_reducible refine sat_brT ?_ ?_); rfl; conv => arg 3; whnf) | ((with_reducible refine sat_brF ?_ ?_); rfl; conv => arg 3; whnf) | ((with_reducible refine sat_eqv ?_ ?_); rfl; conv => arg 3; whnf))
        refine sat_asrt (by decide) ?_
        (conv => arg 3; whnf); repeat (first | ((with_reducible refine sat_brT ?_ ?_); rfl; conv => arg 3; whnf) | ((with_reducible refine sat_brF ?_ ?_); rfl; conv => arg 3; whnf) | ((with_reducible refine sat_eqv ?_ ?_); rfl; conv => arg 3; whnf))
        rw [zt]
        refine sat_call (k_encode ⟨true, [], true, List.replicate (Int.toNat 513) (insT 0 0 0 0 0)⟩ (z_ok (a := 0) (by decide) (by decide))) ?_
        rintro r H' ⟨⟨c2, rfl, _⟩, rfl⟩
        rw [enc_large (.inr (by show (List.replicate _ _).length > 512; rw [List.length_replicate]; decide))]
        (conv => arg 3; whnf); repeat (first | ((with_reducible refine sat_brT ?_ ?_); rfl; conv => arg 3; whnf) | ((with_reducible refine sat_brF ?_ ?_); rfl; conv => arg 3; whnf) | ((with_reducible refine sat_eqv ?_ ?_); rfl; conv => arg 3; whnf))
        refine sat_call (k_encode ⟨true, [mapT 0 0 0 256], true, [insT 0 16 0 0 0]⟩ (one_ok (by decide) (by decide))) ?_
        rintro r H' ⟨⟨c3, rfl, _⟩, rfl⟩
        rw [show Im.enc ⟨true, [mapT 0 0 0 256], true, [insT 0 16 0 0 0]⟩ = ([], 26) from rfl]
        (conv => arg 3; whnf); repeat (first | ((with_reducible refine sat_brT ?_ ?_); rfl; conv => arg 3; whnf) | ((with_reducible refine sat_brF ?_ ?_); rfl; conv => arg 3; whnf) | ((with_reducible refine sat_eqv ?_ ?_); rfl; conv => arg 3; whnf))
        refine sat_call (k_encode ⟨true, [], true, [insT 0 16 0 0 0]⟩ (one_ok (by decide) (by decide))) ?_
        rintro r H' ⟨⟨c4, rfl, _⟩, rfl⟩
        rw [show Im.enc ⟨true, [], true, [insT 0 16 0 0 0]⟩ = ([], 21) from rfl]
        (conv => arg 3; whnf); repeat (first | ((with_reducible refine sat_brT ?_ ?_); rfl; conv => arg 3; whnf) | ((with_reducible refine sat_brF ?_ ?_); rfl; conv => arg 3; whnf) | ((with_reducible refine sat_eqv ?_ ?_); rfl; conv => arg 3; whnf))
        refine sat_call (k_encode ⟨true, [mapT (-1) 0 0 0], true, []⟩ (one_ok (by decide) (by decide))) ?_
        rintro r H' ⟨⟨c5, rfl, _⟩, rfl⟩
        rw [show Im.enc ⟨true, [mapT (-1) 0 0 0], true, []⟩ = ([], 26) from rfl]
        (conv => arg 3; whnf); repeat (first | ((with_reducible refine sat_brT ?_ ?_); rfl; conv => arg 3; whnf) | ((with_reducible refine sat_brF ?_ ?_); rfl; conv => arg 3; whnf) | ((with_reducible refine sat_eqv ?_ ?_); rfl; conv => arg 3; whnf))
        refine sat_call k_wakes ?_
        rintro r H' ⟨rfl, rfl⟩
        (conv => arg 3; whnf); repeat (first | ((with_reducible refine sat_brT ?_ ?_); rfl; conv => arg 3; whnf) | ((with_reducible refine sat_brF ?_ ?_); rfl; conv => arg 3; whnf) | ((with_reducible refine sat_eqv ?_ ?_); rfl; conv => arg 3; whnf))
        exact sat_ret rfl
  · (conv => arg 3; whnf); repeat (first | ((with_reducible refine sat_brT ?_ ?_); rfl; conv => arg 3; whnf) | ((with_reducible refine sat_brF ?_ ?_); rfl; conv => arg 3; whnf) | ((with_reducible refine sat_eqv ?_ ?_); rfl; conv => arg 3; whnf))
    refine sat_asrt (by decide) ?_
    (conv => arg 3; whnf); repeat (first | ((with_reducible refine sat_brT ?_ ?_); rfl; conv => arg 3; whnf) | ((with_reducible refine sat_brF ?_ ?_); rfl; conv => arg 3; whnf) | ((with_reducible refine sat_eqv ?_ ?_); rfl; conv => arg 3; whnf))
    have t2 := zt (Int.toNat 65536) (Tr.int .u8 0)
    have y2 := zb (Int.toNat 65536)
    generalize hZ2 : List.replicate (Int.toNat 65536) (Tr.int .u8 0) = Z2 at t2 y2 ⊢
    rw [t2]
    refine sat_asrt y2 ?_
    (conv => arg 3; whnf); repeat (first | ((with_reducible refine sat_brT ?_ ?_); rfl; conv => arg 3; whnf) | ((with_reducible refine sat_brF ?_ ?_); rfl; conv => arg 3; whnf) | ((with_reducible refine sat_eqv ?_ ?_); rfl; conv => arg 3; whnf))
    refine sat_asrt (by decide) ?_
    (conv => arg 3; whnf); repeat (first | ((with_reducible refine sat_brT ?_ ?_); rfl; conv => arg 3; whnf) | ((with_reducible refine sat_brF ?_ ?_); rfl; conv => arg 3; whnf) | ((with_reducible refine sat_eqv ?_ ?_); rfl; conv => arg 3; whnf))
    rw [t2]
    refine sat_asrt y2 ?_
    (conv => arg 3; whnf); repeat (first | ((with_reducible refine sat_brT ?_ ?_); rfl; conv => arg 3; whnf) | ((with_reducible refine sat_brF ?_ ?_); rfl; conv => arg 3; whnf) | ((with_reducible refine sat_eqv ?_ ?_); rfl; conv => arg 3; whnf))
    have t1 := zt (Int.toNat 65537) (Tr.int .u8 0)
    have y1 := zb (Int.toNat 65537)
    generalize hZ1 : List.replicate (Int.toNat 65537) (Tr.int .u8 0) = Z1 at t1 y1 ⊢
    repeat (first | (rw [t1]; (refine sat_asrt y1 ?_); (conv => arg 3; whnf); repeat (first | ((with_reducible refine sat_brT ?_ ?_); rfl; conv => arg 3; whnf) | ((with_reducible refine sat_brF ?_ ?_); rfl; conv => arg 3; whnf) | ((with_reducible refine sat_eqv ?_ ?_); rfl; conv => arg 3; whnf))) | (rw [t2]; (refine sat_asrt y2 ?_); (conv => arg 3; whnf); repeat (first | ((with_reducible refine sat_brT ?_ ?_); rfl; conv => arg 3; whnf) | ((with_reducible refine sat_brF ?_ ?_); rfl; conv => arg 3; whnf) | ((with_reducible refine sat_eqv ?_ ?_); rfl; conv => arg 3; whnf))))
    have rows := rows_ok hZ1 hZ2
    clear hZ1 hZ2 t1 t2 y1 y2
    generalize strOf Z1 = s1 at rows ⊢
    generalize strOf Z2 = s2 at rows ⊢
    refine sat_loopOf mkX_ops (σ := KnSt) (fun s => [(31, .sl 0 0 [] 0 10 (some 10)), (32, ti 10), (33, ti s.i)]) (fun s => [.row 2 (rowsL s1 s2)]) (fun s => 10 - s.i)
      (fun ex fr' H' => ex = .exit 0 ∧ fr' = [(0, .undef)] ∧ H' = [.row 2 (rowsL s1 s2)]) ⟨0, by omega⟩ ?_ ?_
    · rintro ⟨i, im⟩
      dsimp only
      refine sat_br (fun hi => ?_) (fun hi => ?_)
      · have hi : i < 10 := by have := of_decide_eq_true hi; omega
        have hlen : (rowsL s1 s2).length = 10 := rfl
        obtain ⟨s, e, hy, hd, hb, hl⟩ := (rows _ (List.getElem_mem (show i < (rowsL s1 s2).length by omega))).h
        have hg : (rowsL s1 s2)[i]? = some (.agg [.str s, .int .i64 e]) := by rw [List.getElem?_eq_getElem (by omega), hy]
        generalize rowsL s1 s2 = XS at hg hlen ⊢
        (conv => arg 3; whnf); repeat (first | ((with_reducible refine sat_brT ?_ ?_); rfl; conv => arg 3; whnf) | ((with_reducible refine sat_brF ?_ ?_); rfl; conv => arg 3; whnf) | ((with_reducible refine sat_eqv ?_ ?_); rfl; conv => arg 3; whnf))
        refine sat_asrt (decide_eq_true (by omega)) ?_
        (conv => arg 3; whnf); repeat (first | ((with_reducible refine sat_brT ?_ ?_); rfl; conv => arg 3; whnf) | ((with_reducible refine sat_brF ?_ ?_); rfl; conv => arg 3; whnf) | ((with_reducible refine sat_eqv ?_ ?_); rfl; conv => arg 3; whnf))
        refine sat_idx _ (by simp) (by simpa using hg) ?_
        (conv => arg 3; whnf); repeat (first | ((with_reducible refine sat_brT ?_ ?_); rfl; conv => arg 3; whnf) | ((with_reducible refine sat_brF ?_ ?_); rfl; conv => arg 3; whnf) | ((with_reducible refine sat_eqv ?_ ?_); rfl; conv => arg 3; whnf))
        rw [List.drop_zero, List.take_length]
        have kd := k_decode _ hb hl
        rw [hd] at kd
        refine sat_call kd ?_
        rintro r H' ⟨rfl, rfl⟩
        (conv => arg 3; whnf); repeat (first | ((with_reducible refine sat_brT ?_ ?_); rfl; conv => arg 3; whnf) | ((with_reducible refine sat_brF ?_ ?_); rfl; conv => arg 3; whnf) | ((with_reducible refine sat_eqv ?_ ?_); rfl; conv => arg 3; whnf))
        repeat (first | ((refine sat_brF (by simp) ?_); (conv => arg 3; whnf); repeat (first | ((with_reducible refine sat_brT ?_ ?_); rfl; conv => arg 3; whnf) | ((with_reducible refine sat_brF ?_ ?_); rfl; conv => arg 3; whnf) | ((with_reducible refine sat_eqv ?_ ?_); rfl; conv => arg 3; whnf))) | ((with_reducible refine sat_rng ?_ ?_); (exact wrap64 (by omega) (by omega)); (conv => arg 3; whnf); repeat (first | ((with_reducible refine sat_brT ?_ ?_); rfl; conv => arg 3; whnf) | ((with_reducible refine sat_brF ?_ ?_); rfl; conv => arg 3; whnf) | ((with_reducible refine sat_eqv ?_ ?_); rfl; conv => arg 3; whnf))))
        exact sat_ret ⟨⟨i + 1, hi⟩, rfl, rfl, by show 10 - (i + 1) < 10 - i; omega⟩
      · refine sat_ret ?_
        exact ⟨rfl, rfl, rfl⟩
    · rintro ex fr' H' ⟨rfl, rfl, rfl⟩
      (conv => arg 3; whnf); repeat (first | ((with_reducible refine sat_brT ?_ ?_); rfl; conv => arg 3; whnf) | ((with_reducible refine sat_brF ?_ ?_); rfl; conv => arg 3; whnf) | ((with_reducible refine sat_eqv ?_ ?_); rfl; conv => arg 3; whnf))
      refine sat_any ?_ ?_
      all_goals
        (conv => arg 3; whnf); repeat (first | ((with_reducible refine sat_brT ?_ ?_); rfl; conv => arg 3; whnf) | ((with_reducible refine sat_brF ?_ ?_); rfl; conv => arg 3; whnf) | ((with_reducible refine sat_eqv ?_ ?_); rfl; conv => arg 3; whnf))
        refine sat_asrt (by decide) ?_
        (conv => arg 3; whnf); repeat (first | ((with_reducible refine sat_brT ?_ ?_); rfl; conv => arg 3; whnf) | ((with_reducible refine sat_brF ?_ ?_); rfl; conv => arg 3; whnf) | ((with_reducible refine sat_eqv ?_ ?_); rfl; conv => arg 3; whnf))
        refine sat_asrt (by decide) ?_
        (conv => arg 3; whnf); repeat (first | ((with_reducible refine sat_brT ?_ ?_); rfl; conv => arg 3; whnf) | ((with_reducible refine sat_brF ?_ ?_); rfl; conv => arg 3; whnf) | ((with_reducible refine sat_eqv ?_ ?_); rfl; conv => arg 3; whnf))
        rw [zt, zt]
        refine sat_call (k_encode ⟨true, List.replicate (Int.toNat 4) (mapT 0 0 0 0), true, List.replicate (Int.toNat 512) (insT 0 0 0 0 0)⟩ (z_ok (by decide) (by decide))) ?_
        rintro r H' ⟨⟨c, rfl, _⟩, rfl⟩
        obtain ⟨q1, q2⟩ := enc_zeros (a := Int.toNat 4) (b := Int.toNat 512) (by decide) (by decide)
        rw [q1]
        generalize (Im.enc ⟨true, List.replicate (Int.toNat 4) (mapT 0 0 0 0), true, List.replicate (Int.toNat 512) (insT 0 0 0 0 0)⟩).1 = E1 at q2 ⊢
        rw [q2]
        (conv => arg 3; whnf); repeat (first | ((with_reducible refine sat_brT ?_ ?_); rfl; conv => arg 3; whnf) | ((with_reducible refine sat_brF ?_ ?_); rfl; conv => arg 3; whnf) | ((with_reducible refine sat_eqv ?_ ?_); rfl; conv => arg 3; whnf))
        refine sat_asrt (by decide) ?_
        (conv => arg 3; whnf); repeat (first | ((with_reducible refine sat_brT ?_ ?_); rfl; conv => arg 3; whnf) | ((with_reducible refine sat_brF ?_ ?_); rfl; conv => arg 3; whnf) | ((with_reducible refine sat_eqv ?_ ?_); rfl; conv => arg 3; whnf))
        rw [zt]
        refine sat_call (k_encode ⟨true, List.replicate (Int.toNat 5) (mapT 0 0 0 0), true, []⟩ (z_ok (b := 0) (by decide) (by decide))) ?_
        rintro r H' ⟨⟨c1, rfl, _⟩, rfl⟩
        rw [enc_large (.inl (by show (List.replicate _ _).length > 4; rw [List.length_replicate]; decide))]
        (conv => arg 3; whnf); repeat (first | ((with_reducible refine sat_brT ?_ ?_); rfl; conv => arg 3; whnf) | ((with_reducible refine sat_brF ?_ ?_); rfl; conv => arg 3; whnf) | ((with_reducible refine sat_eqv ?_ ?_); rfl; conv => arg 3; whnf))
        refine sat_asrt (by decide) ?_
        (conv => arg 3; whnf); repeat (first | ((with_reducible refine sat_brT ?_ ?_); rfl; conv => arg 3; whnf) | ((with_reducible refine sat_brF ?_ ?_); rfl; conv => arg 3; whnf) | ((with_reducible refine sat_eqv ?_ ?_); rfl; conv => arg 3; whnf))
        rw [zt]
        refine sat_call (k_encode ⟨true, [], true, List.replicate (Int.toNat 513) (insT 0 0 0 0 0)⟩ (z_ok (a := 0) (by decide) (by decide))) ?_
        rintro r H' ⟨⟨c2, rfl, _⟩, rfl⟩
        rw [enc_large (.inr (by show (List.replicate _ _).length > 512; rw [List.length_replicate]; decide))]
        (conv => arg 3; whnf); repeat (first | ((with_reducible refine sat_brT ?_ ?_); rfl; conv => arg 3; whnf) | ((with_reducible refine sat_brF ?_ ?_); rfl; conv => arg 3; whnf) | ((with_reducible refine sat_eqv ?_ ?_); rfl; conv => arg 3; whnf))
        refine sat_call (k_encode ⟨true, [mapT 0 0 0 256], true, [insT 0 16 0 0 0]⟩ (one_ok (by decide) (by decide))) ?_
        rintro r H' ⟨⟨c3, rfl, _⟩, rfl⟩
        rw [show Im.enc ⟨true, [mapT 0 0 0 256], true, [insT 0 16 0 0 0]⟩ = ([], 26) from rfl]
        (conv => arg 3; whnf); repeat (first | ((with_reducible refine sat_brT ?_ ?_); rfl; conv => arg 3; whnf) | ((with_reducible refine sat_brF ?_ ?_); rfl; conv => arg 3; whnf) | ((with_reducible refine sat_eqv ?_ ?_); rfl; conv => arg 3; whnf))
        refine sat_call (k_encode ⟨true, [], true, [insT 0 16 0 0 0]⟩ (one_ok (by decide) (by decide))) ?_
        rintro r H' ⟨⟨c4, rfl, _⟩, rfl⟩
        rw [show Im.enc ⟨true, [], true, [insT 0 16 0 0 0]⟩ = ([], 21) from rfl]
        (conv => arg 3; whnf); repeat (first | ((with_reducible refine sat_brT ?_ ?_); rfl; conv => arg 3; whnf) | ((with_reducible refine sat_brF ?_ ?_); rfl; conv => arg 3; whnf) | ((with_reducible refine sat_eqv ?_ ?_); rfl; conv => arg 3; whnf))
        refine sat_call (k_encode ⟨true, [mapT (-1) 0 0 0], true, []⟩ (one_ok (by decide) (by decide))) ?_
        rintro r H' ⟨⟨c5, rfl, _⟩, rfl⟩
        rw [show Im.enc ⟨true, [mapT (-1) 0 0 0], true, []⟩ = ([], 26) from rfl]
        (conv => arg 3; whnf); repeat (first | ((with_reducible refine sat_brT ?_ ?_); rfl; conv => arg 3; whnf) | ((with_reducible refine sat_brF ?_ ?_); rfl; conv => arg 3; whnf) | ((with_reducible refine sat_eqv ?_ ?_); rfl; conv => arg 3; whnf))
        refine sat_call k_wakes ?_
        rintro r H' ⟨rfl, rfl⟩
        (conv => arg 3; whnf); repeat (first | ((with_reducible refine sat_brT ?_ ?_); rfl; conv => arg 3; whnf) | ((with_reducible refine sat_brF ?_ ?_); rfl; conv => arg 3; whnf) | ((with_reducible refine sat_eqv ?_ ?_); rfl; conv => arg 3; whnf))
        exact sat_ret rfl
end Stk
