/- The program's records of a file. -/
import Derived.Test.YtmcdljgpalejaaaW3
namespace Stk
open Go
set_option maxRecDepth 100000
set_option linter.unusedSimpArgs false
set_option linter.unusedVariables false
set_option maxHeartbeats 4000000
theorem or_shl (k : IntKind) {x y : Int} {n : Nat} (hx : 0 ≤ x ∧ x < 2 ^ n) (hy : 0 ≤ y) (hb : x + y * 2 ^ n < 2 ^ k.bits) (hw : k.wrap (x + y * 2 ^ n) = x + y * 2 ^ n) : bitsV .or k x (y * 2 ^ n) = x + y * 2 ^ n := by
  obtain ⟨a, rfl⟩ : ∃ a : Nat, x = a := ⟨x.toNat, by omega⟩
  obtain ⟨b, rfl⟩ : ∃ b : Nat, y = b := ⟨y.toNat, by omega⟩
  have hx' : a < 2 ^ n := by exact_mod_cast hx.2
  have hb' : a + b * 2 ^ n < 2 ^ k.bits := by exact_mod_cast hb
  have e1 : ((b : Int) * 2 ^ n) = ((b * 2 ^ n : Nat) : Int) := by push_cast; rfl
  have e2 : ((a : Int) + b * 2 ^ n) = ((a + b * 2 ^ n : Nat) : Int) := by push_cast; rfl
  rw [e2] at hw ⊢
  rw [e1]
  unfold bitsV
  have t1 : (BitVec.ofInt k.bits (a : Int)).toNat = a := by
    rw [BitVec.ofInt_natCast, BitVec.toNat_ofNat, Nat.mod_eq_of_lt (by omega)]
  have t2 : (BitVec.ofInt k.bits ((b * 2 ^ n : Nat) : Int)).toNat = b * 2 ^ n := by
    rw [BitVec.ofInt_natCast, BitVec.toNat_ofNat, Nat.mod_eq_of_lt (by omega)]
  dsimp only
  rw [BitVec.toNat_or, t1, t2]
  have : a ||| b * 2 ^ n = a + b * 2 ^ n := by
    have := Nat.shiftLeft_add_eq_or_of_lt hx' b
    rw [Nat.shiftLeft_eq] at this
    rw [Nat.or_comm, ← this, Nat.add_comm]
  rw [this]
  exact hw
theorem or64_8 {x y : Int} (hx : 0 ≤ x ∧ x ≤ 255) (hy : 0 ≤ y ∧ y ≤ 255) : bitsV .or .i64 x (y * 2 ^ 8) = x + y * 256 := by
  rw [or_shl .i64 (n := 8) (by omega) (by omega) (by show _ < (2 : Int) ^ 64; omega) (by exact wrap64 (by omega) (by omega))]
  omega
theorem or64_16 {x y : Int} (hx : 0 ≤ x ∧ x ≤ 65535) (hy : 0 ≤ y ∧ y ≤ 255) : bitsV .or .i64 x (y * 2 ^ 16) = x + y * 65536 := by
  rw [or_shl .i64 (n := 16) (by omega) (by omega) (by show _ < (2 : Int) ^ 64; omega) (by exact wrap64 (by omega) (by omega))]
  omega
theorem or64_24 {x y : Int} (hx : 0 ≤ x ∧ x ≤ 16777215) (hy : 0 ≤ y ∧ y ≤ 255) : bitsV .or .i64 x (y * 2 ^ 24) = x + y * 16777216 := by
  rw [or_shl .i64 (n := 24) (by omega) (by omega) (by show _ < (2 : Int) ^ 64; omega) (by exact wrap64 (by omega) (by omega))]
  omega
structure WsSt (L : List Tr) where
  R : List (List Tr)
  at_ : Nat
  eq : records L = R ++ records (L.drop at_)
  fl : (formsL R).length = at_
  le : at_ ≤ L.length
theorem k_wsplit (L : List Tr) (hL : AllB L) (hl : L.length ≤ 2 ^ 40) : ACalls PP GG F.wal_split [.bz 1 L] [] fun r H' => r = .tup [.sl 0 0 [] 0 (records L).length none, ti (formsL (records L)).length] ∧ H' = [.row 1 ((records L).map rx)] := by
  refine K.wal_split.callsC rfl ?_
  (conv => arg 3; whnf); repeat (first | ((with_reducible refine sat_brT ?_ ?_); rfl; conv => arg 3; whnf) | ((with_reducible refine sat_brF ?_ ?_); rfl; conv => arg 3; whnf) | ((with_reducible refine sat_eqv ?_ ?_); rfl; conv => arg 3; whnf))
  refine sat_loopOf mkX_ops (σ := WsSt L) (fun x => [(0, .bz 1 L), (4, .sl 0 0 [] 0 x.R.length none), (5, ti x.at_)]) (fun x => [.row 1 (x.R.map rx)]) (fun x => L.length - x.at_)
      (fun ex fr' H' => H' = [.row 1 ((records L).map rx)] ∧ ex = .exit 0 ∧ fr' = [(4, .sl 0 0 [] 0 (records L).length none), (5, ti (formsL (records L)).length)]) ⟨[], 0, rfl, rfl, Nat.zero_le _⟩ ?_ ?_
  · rintro ⟨R, at_, heq, hfl, hle⟩
    have hfl2 := formsL_len R
    dsimp only
    (conv => arg 3; whnf); repeat (first | ((with_reducible refine sat_brT ?_ ?_); rfl; conv => arg 3; whnf) | ((with_reducible refine sat_brF ?_ ?_); rfl; conv => arg 3; whnf) | ((with_reducible refine sat_eqv ?_ ?_); rfl; conv => arg 3; whnf))
    refine sat_rng (wrap64 (by omega) (by omega)) ?_
    refine sat_br (fun h => ?_) (fun h => ?_)
    · have h : 4 ≤ (L.drop at_).length := by have := of_decide_eq_true h; rw [List.length_drop]; omega
      have hd := List.length_drop (i := at_) (l := L)
      obtain ⟨a, b, c, d, M, hx, ha, hb', hc, hd', hM⟩ := (hL.drop at_).four h
      have hML : M.length + 4 + at_ = L.length := by rw [hx] at hd; simp at hd; rw [hx] at h; simp at h; omega
      rw [hx] at heq
      obtain ⟨n, hn⟩ : ∃ n : Nat, (n : Int) = a + 256 * b + 65536 * c + 16777216 * d := ⟨(a + 256 * b + 65536 * c + 16777216 * d).toNat, by omega⟩
      have gx : ∀ (i : Int) (j : Nat) (v : Tr), i = at_ + j → (u8 a :: u8 b :: u8 c :: u8 d :: M)[j]? = some v → L[i.toNat]? = some v := by
        intro i j v hi hv
        rw [← hx, List.getElem?_drop] at hv
        rw [show i.toNat = at_ + j by omega]; exact hv
      have p8 : (2 : Int) ^ min (Int.toNat 8) (IntKind.bits .i64) = 2 ^ 8 := by decide
      have p16 : (2 : Int) ^ min (Int.toNat 16) (IntKind.bits .i64) = 2 ^ 16 := by decide
      have p24 : (2 : Int) ^ min (Int.toNat 24) (IntKind.bits .i64) = 2 ^ 24 := by decide
      (conv => arg 3; whnf); repeat (first | ((with_reducible refine sat_brT ?_ ?_); rfl; conv => arg 3; whnf) | ((with_reducible refine sat_brF ?_ ?_); rfl; conv => arg 3; whnf) | ((with_reducible refine sat_eqv ?_ ?_); rfl; conv => arg 3; whnf))
      refine sat_idx (u8 a) (by omega) (gx _ 0 _ (by omega) rfl) ?_
      (conv => arg 3; whnf); repeat (first | ((with_reducible refine sat_brT ?_ ?_); rfl; conv => arg 3; whnf) | ((with_reducible refine sat_brF ?_ ?_); rfl; conv => arg 3; whnf) | ((with_reducible refine sat_eqv ?_ ?_); rfl; conv => arg 3; whnf))
      refine sat_rng (wrap64 (by omega) (by omega)) ?_
      (conv => arg 3; whnf); repeat (first | ((with_reducible refine sat_brT ?_ ?_); rfl; conv => arg 3; whnf) | ((with_reducible refine sat_brF ?_ ?_); rfl; conv => arg 3; whnf) | ((with_reducible refine sat_eqv ?_ ?_); rfl; conv => arg 3; whnf))
      refine sat_rng (wrap64 (by omega) (by omega)) ?_
      (conv => arg 3; whnf); repeat (first | ((with_reducible refine sat_brT ?_ ?_); rfl; conv => arg 3; whnf) | ((with_reducible refine sat_brF ?_ ?_); rfl; conv => arg 3; whnf) | ((with_reducible refine sat_eqv ?_ ?_); rfl; conv => arg 3; whnf))
      refine sat_idx (u8 b) (by omega) (gx _ 1 _ (by omega) rfl) ?_
      (conv => arg 3; whnf); repeat (first | ((with_reducible refine sat_brT ?_ ?_); rfl; conv => arg 3; whnf) | ((with_reducible refine sat_brF ?_ ?_); rfl; conv => arg 3; whnf) | ((with_reducible refine sat_eqv ?_ ?_); rfl; conv => arg 3; whnf))
      refine sat_rng (wrap64 (by omega) (by omega)) ?_
      (conv => arg 3; whnf); repeat (first | ((with_reducible refine sat_brT ?_ ?_); rfl; conv => arg 3; whnf) | ((with_reducible refine sat_brF ?_ ?_); rfl; conv => arg 3; whnf) | ((with_reducible refine sat_eqv ?_ ?_); rfl; conv => arg 3; whnf))
      refine sat_asrt rfl ?_
      (conv => arg 3; whnf); repeat (first | ((with_reducible refine sat_brT ?_ ?_); rfl; conv => arg 3; whnf) | ((with_reducible refine sat_brF ?_ ?_); rfl; conv => arg 3; whnf) | ((with_reducible refine sat_eqv ?_ ?_); rfl; conv => arg 3; whnf))
      rw [p8]
      refine sat_rng (wrap64 (by omega) (by omega)) ?_
      (conv => arg 3; whnf); repeat (first | ((with_reducible refine sat_brT ?_ ?_); rfl; conv => arg 3; whnf) | ((with_reducible refine sat_brF ?_ ?_); rfl; conv => arg 3; whnf) | ((with_reducible refine sat_eqv ?_ ?_); rfl; conv => arg 3; whnf))
      rw [or64_8 ha hb']
      (conv => arg 3; whnf); repeat (first | ((with_reducible refine sat_brT ?_ ?_); rfl; conv => arg 3; whnf) | ((with_reducible refine sat_brF ?_ ?_); rfl; conv => arg 3; whnf) | ((with_reducible refine sat_eqv ?_ ?_); rfl; conv => arg 3; whnf))
      refine sat_rng (wrap64 (by omega) (by omega)) ?_
      (conv => arg 3; whnf); repeat (first | ((with_reducible refine sat_brT ?_ ?_); rfl; conv => arg 3; whnf) | ((with_reducible refine sat_brF ?_ ?_); rfl; conv => arg 3; whnf) | ((with_reducible refine sat_eqv ?_ ?_); rfl; conv => arg 3; whnf))
      refine sat_idx (u8 c) (by omega) (gx _ 2 _ (by omega) rfl) ?_
      (conv => arg 3; whnf); repeat (first | ((with_reducible refine sat_brT ?_ ?_); rfl; conv => arg 3; whnf) | ((with_reducible refine sat_brF ?_ ?_); rfl; conv => arg 3; whnf) | ((with_reducible refine sat_eqv ?_ ?_); rfl; conv => arg 3; whnf))
      refine sat_rng (wrap64 (by omega) (by omega)) ?_
      (conv => arg 3; whnf); repeat (first | ((with_reducible refine sat_brT ?_ ?_); rfl; conv => arg 3; whnf) | ((with_reducible refine sat_brF ?_ ?_); rfl; conv => arg 3; whnf) | ((with_reducible refine sat_eqv ?_ ?_); rfl; conv => arg 3; whnf))
      refine sat_asrt rfl ?_
      (conv => arg 3; whnf); repeat (first | ((with_reducible refine sat_brT ?_ ?_); rfl; conv => arg 3; whnf) | ((with_reducible refine sat_brF ?_ ?_); rfl; conv => arg 3; whnf) | ((with_reducible refine sat_eqv ?_ ?_); rfl; conv => arg 3; whnf))
      rw [p16]
      refine sat_rng (wrap64 (by omega) (by omega)) ?_
      (conv => arg 3; whnf); repeat (first | ((with_reducible refine sat_brT ?_ ?_); rfl; conv => arg 3; whnf) | ((with_reducible refine sat_brF ?_ ?_); rfl; conv => arg 3; whnf) | ((with_reducible refine sat_eqv ?_ ?_); rfl; conv => arg 3; whnf))
      rw [or64_16 (by omega) hc]
      (conv => arg 3; whnf); repeat (first | ((with_reducible refine sat_brT ?_ ?_); rfl; conv => arg 3; whnf) | ((with_reducible refine sat_brF ?_ ?_); rfl; conv => arg 3; whnf) | ((with_reducible refine sat_eqv ?_ ?_); rfl; conv => arg 3; whnf))
      refine sat_rng (wrap64 (by omega) (by omega)) ?_
      (conv => arg 3; whnf); repeat (first | ((with_reducible refine sat_brT ?_ ?_); rfl; conv => arg 3; whnf) | ((with_reducible refine sat_brF ?_ ?_); rfl; conv => arg 3; whnf) | ((with_reducible refine sat_eqv ?_ ?_); rfl; conv => arg 3; whnf))
      refine sat_idx (u8 d) (by omega) (gx _ 3 _ (by omega) rfl) ?_
      (conv => arg 3; whnf); repeat (first | ((with_reducible refine sat_brT ?_ ?_); rfl; conv => arg 3; whnf) | ((with_reducible refine sat_brF ?_ ?_); rfl; conv => arg 3; whnf) | ((with_reducible refine sat_eqv ?_ ?_); rfl; conv => arg 3; whnf))
      refine sat_rng (wrap64 (by omega) (by omega)) ?_
      (conv => arg 3; whnf); repeat (first | ((with_reducible refine sat_brT ?_ ?_); rfl; conv => arg 3; whnf) | ((with_reducible refine sat_brF ?_ ?_); rfl; conv => arg 3; whnf) | ((with_reducible refine sat_eqv ?_ ?_); rfl; conv => arg 3; whnf))
      refine sat_asrt rfl ?_
      (conv => arg 3; whnf); repeat (first | ((with_reducible refine sat_brT ?_ ?_); rfl; conv => arg 3; whnf) | ((with_reducible refine sat_brF ?_ ?_); rfl; conv => arg 3; whnf) | ((with_reducible refine sat_eqv ?_ ?_); rfl; conv => arg 3; whnf))
      rw [p24]
      refine sat_rng (wrap64 (by omega) (by omega)) ?_
      (conv => arg 3; whnf); repeat (first | ((with_reducible refine sat_brT ?_ ?_); rfl; conv => arg 3; whnf) | ((with_reducible refine sat_brF ?_ ?_); rfl; conv => arg 3; whnf) | ((with_reducible refine sat_eqv ?_ ?_); rfl; conv => arg 3; whnf))
      rw [or64_24 (by omega) hd']
      rw [show a + b * 256 + c * 65536 + d * 16777216 = (n : Int) by omega]
      generalize hg : decide ((n : Int) > 1048576) = g
      cases g
      · have hg := of_decide_eq_false hg
        (conv => arg 3; whnf); repeat (first | ((with_reducible refine sat_brT ?_ ?_); rfl; conv => arg 3; whnf) | ((with_reducible refine sat_brF ?_ ?_); rfl; conv => arg 3; whnf) | ((with_reducible refine sat_eqv ?_ ?_); rfl; conv => arg 3; whnf))
        refine sat_rng (wrap64 (by omega) (by omega)) ?_
        (conv => arg 3; whnf); repeat (first | ((with_reducible refine sat_brT ?_ ?_); rfl; conv => arg 3; whnf) | ((with_reducible refine sat_brF ?_ ?_); rfl; conv => arg 3; whnf) | ((with_reducible refine sat_eqv ?_ ?_); rfl; conv => arg 3; whnf))
        refine sat_rng (wrap64 (by omega) (by omega)) ?_
        (conv => arg 3; whnf); repeat (first | ((with_reducible refine sat_brT ?_ ?_); rfl; conv => arg 3; whnf) | ((with_reducible refine sat_brF ?_ ?_); rfl; conv => arg 3; whnf) | ((with_reducible refine sat_eqv ?_ ?_); rfl; conv => arg 3; whnf))
        refine sat_br (fun h2 => ?_) (fun h2 => ?_)
        · have h2 := of_decide_eq_true h2
          (conv => arg 3; whnf); repeat (first | ((with_reducible refine sat_brT ?_ ?_); rfl; conv => arg 3; whnf) | ((with_reducible refine sat_brF ?_ ?_); rfl; conv => arg 3; whnf) | ((with_reducible refine sat_eqv ?_ ?_); rfl; conv => arg 3; whnf))
          rw [records_stop hn (by omega), List.append_nil] at heq
          exact sat_ret ⟨by rw [heq], rfl, by rw [heq, hfl]; rfl⟩
        · have h2 := of_decide_eq_false h2
          have hnM : n ≤ M.length := by omega
          (conv => arg 3; whnf); repeat (first | ((with_reducible refine sat_brT ?_ ?_); rfl; conv => arg 3; whnf) | ((with_reducible refine sat_brF ?_ ?_); rfl; conv => arg 3; whnf) | ((with_reducible refine sat_eqv ?_ ?_); rfl; conv => arg 3; whnf))
          refine sat_rng (wrap64 (by omega) (by omega)) ?_
          (conv => arg 3; whnf); repeat (first | ((with_reducible refine sat_brT ?_ ?_); rfl; conv => arg 3; whnf) | ((with_reducible refine sat_brF ?_ ?_); rfl; conv => arg 3; whnf) | ((with_reducible refine sat_eqv ?_ ?_); rfl; conv => arg 3; whnf))
          refine sat_rng (wrap64 (by omega) (by omega)) ?_
          (conv => arg 3; whnf); repeat (first | ((with_reducible refine sat_brT ?_ ?_); rfl; conv => arg 3; whnf) | ((with_reducible refine sat_brF ?_ ?_); rfl; conv => arg 3; whnf) | ((with_reducible refine sat_eqv ?_ ?_); rfl; conv => arg 3; whnf))
          refine sat_rng (wrap64 (by omega) (by omega)) ?_
          (conv => arg 3; whnf); repeat (first | ((with_reducible refine sat_brT ?_ ?_); rfl; conv => arg 3; whnf) | ((with_reducible refine sat_brF ?_ ?_); rfl; conv => arg 3; whnf) | ((with_reducible refine sat_eqv ?_ ?_); rfl; conv => arg 3; whnf))
          refine sat_asrt (by simp; omega) ?_
          (conv => arg 3; whnf); repeat (first | ((with_reducible refine sat_brT ?_ ?_); rfl; conv => arg 3; whnf) | ((with_reducible refine sat_brF ?_ ?_); rfl; conv => arg 3; whnf) | ((with_reducible refine sat_eqv ?_ ?_); rfl; conv => arg 3; whnf))
          refine sat_asrt (by simp; omega) ?_
          (conv => arg 3; whnf); repeat (first | ((with_reducible refine sat_brT ?_ ?_); rfl; conv => arg 3; whnf) | ((with_reducible refine sat_brF ?_ ?_); rfl; conv => arg 3; whnf) | ((with_reducible refine sat_eqv ?_ ?_); rfl; conv => arg 3; whnf))
          have hM4 : L.drop (at_ + 4) = M := by
            have := congrArg (List.drop 4) hx
            rw [List.drop_drop] at this
            exact this
          have ek : List.drop ((at_ : Int) + 4).toNat (List.take ((at_ : Int) + 4 + n).toNat L) = M.take n := by
            rw [show ((at_ : Int) + 4).toNat = at_ + 4 by omega, show ((at_ : Int) + 4 + n).toNat = at_ + 4 + n by omega, List.drop_take, hM4]
            congr 1
            omega
          refine sat_call (Q' := fun r H' => r = .sl 0 0 [] 0 (M.take n).length none ∧ H' = [.row 1 (M.take n)]) (by rw [ek]; exact k_clone (M.take n) (by simp; omega)) ?_
          rintro r H' ⟨rfl, rfl⟩
          (conv => arg 3; whnf); repeat (first | ((with_reducible refine sat_brT ?_ ?_); rfl; conv => arg 3; whnf) | ((with_reducible refine sat_brF ?_ ?_); rfl; conv => arg 3; whnf) | ((with_reducible refine sat_eqv ?_ ?_); rfl; conv => arg 3; whnf))
          refine sat_asrt (by simp) ?_
          refine sat_asrt (by simp [roomy]; omega) ?_
          refine sat_brT (by simp) ?_
          (conv => arg 3; whnf); repeat (first | ((with_reducible refine sat_brT ?_ ?_); rfl; conv => arg 3; whnf) | ((with_reducible refine sat_brF ?_ ?_); rfl; conv => arg 3; whnf) | ((with_reducible refine sat_eqv ?_ ?_); rfl; conv => arg 3; whnf))
          refine sat_rng (wrap64 (by omega) (by omega)) ?_
          (conv => arg 3; whnf); repeat (first | ((with_reducible refine sat_brT ?_ ?_); rfl; conv => arg 3; whnf) | ((with_reducible refine sat_brF ?_ ?_); rfl; conv => arg 3; whnf) | ((with_reducible refine sat_eqv ?_ ?_); rfl; conv => arg 3; whnf))
          refine sat_rng (wrap64 (by omega) (by omega)) ?_
          have em : List.take (List.take n M).length (List.drop 0 (List.take n M)) = M.take n := by rw [List.drop_zero, List.take_length]
          have hMn : (M.take n).length = n := by rw [List.length_take]; omega
          have hmd : L.drop (at_ + (4 + n)) = M.drop n := by rw [← hM4, List.drop_drop]; congr 1; omega
          refine sat_ret ⟨⟨R ++ [M.take n], at_ + (4 + n), by rw [heq, records_cons hn ⟨by omega, hnM⟩, List.append_assoc, hmd]; rfl, by rw [formsL_append, List.length_append, hfl, formsL_cons, formsL_nil, List.append_nil, formB_len, hMn]; omega, by omega⟩, ?_, ?_, ?_⟩
          · rw [em, ← map_rx_snoc, List.length_map]; rfl
          · rw [em, ← map_rx_snoc]
          · show L.length - (at_ + (4 + n)) < L.length - at_
            omega
      · have hg := of_decide_eq_true hg
        (conv => arg 3; whnf); repeat (first | ((with_reducible refine sat_brT ?_ ?_); rfl; conv => arg 3; whnf) | ((with_reducible refine sat_brF ?_ ?_); rfl; conv => arg 3; whnf) | ((with_reducible refine sat_eqv ?_ ?_); rfl; conv => arg 3; whnf))
        rw [records_stop hn (by omega), List.append_nil] at heq
        exact sat_ret ⟨by rw [heq], rfl, by rw [heq, hfl]; rfl⟩
    · have h : (L.drop at_).length < 4 := by have := of_decide_eq_false h; rw [List.length_drop]; omega
      (conv => arg 3; whnf); repeat (first | ((with_reducible refine sat_brT ?_ ?_); rfl; conv => arg 3; whnf) | ((with_reducible refine sat_brF ?_ ?_); rfl; conv => arg 3; whnf) | ((with_reducible refine sat_eqv ?_ ?_); rfl; conv => arg 3; whnf))
      rw [records_short h, List.append_nil] at heq
      exact sat_ret ⟨by rw [heq], rfl, by rw [heq, hfl]; rfl⟩
  · rintro ex fr' H' ⟨rfl, rfl, rfl⟩
    (conv => arg 3; whnf); repeat (first | ((with_reducible refine sat_brT ?_ ?_); rfl; conv => arg 3; whnf) | ((with_reducible refine sat_brF ?_ ?_); rfl; conv => arg 3; whnf) | ((with_reducible refine sat_eqv ?_ ?_); rfl; conv => arg 3; whnf))
    exact sat_ret ⟨rfl, rfl⟩
end Stk
