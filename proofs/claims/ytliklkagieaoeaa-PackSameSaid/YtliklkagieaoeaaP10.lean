/- The document's comparisons; copies. -/
import Derived.Test.YtliklkagieaoeaaP9
namespace Stk
open Go
set_option maxRecDepth 100000
set_option linter.unusedSimpArgs false
set_option linter.unusedVariables false
set_option maxHeartbeats 4000000
structure SaSt {α : Type} (a b : List α) where
  i : Nat
  le : i ≤ a.length
  eq : a.take i = b.take i
theorem r_sameB (a b : List Tr) (ha : AllB a) (hb : AllB b) (hl : a.length ≤ 2 ^ 50) : ACalls PP GG F.ref20_SameBytes [.bz 1 a, .bz 1 b] [] fun r H' => ∃ q, r = tb q ∧ (q = true ↔ a = b) ∧ H' = [] := by
  refine K.ref20_SameBytes.callsC rfl ?_
  refine sat_br (fun h => ?_) (fun h => ?_)
  · refine sat_ret ⟨false, rfl, ?_, rfl⟩
    simp at h
    simp
    rintro rfl
    exact h rfl
  · have hab : a.length = b.length := by simp at h; omega
    refine sat_loopOf mkX_ops (σ := SaSt a b) (fun x => [(0, .bz 1 a), (1, .bz 1 b), (5, ti x.i)]) (fun _ => []) (fun x => a.length - x.i)
      (fun ex fr' H' => H' = [] ∧ ((ex = .ret ∧ fr' = [(4, tb false)] ∧ a ≠ b) ∨ (ex = .exit 0 ∧ fr' = [(4, .undef)] ∧ a = b))) ⟨0, Nat.zero_le _, rfl⟩ ?_ ?_
    · rintro ⟨i, hi, heq⟩
      dsimp only
      refine sat_br (fun h => ?_) (fun h => ?_)
      · have h : i < a.length := by simpa using h
        obtain ⟨u, hu, _⟩ := ha.get h
        obtain ⟨v, hv, _⟩ := hb.get (show i < b.length by omega)
        (conv => arg 3; whnf); repeat (first | ((with_reducible refine sat_brT ?_ ?_); rfl; conv => arg 3; whnf) | ((with_reducible refine sat_brF ?_ ?_); rfl; conv => arg 3; whnf) | ((with_reducible refine sat_eqv ?_ ?_); rfl; conv => arg 3; whnf))
        refine sat_idx (.int .u8 u) (by simp) (by simpa using hu) ?_
        refine sat_idx (.int .u8 v) (by simp) (by simpa using hv) ?_
        refine sat_br (fun h2 => ?_) (fun h2 => ?_)
        · refine sat_ret ⟨rfl, .inl ⟨rfl, rfl, ?_⟩⟩
          rintro rfl
          rw [hu] at hv
          have : u = v := by simpa using hv
          simp [this] at h2
        · have : u = v := by simpa using h2
          (conv => arg 3; whnf); repeat (first | ((with_reducible refine sat_brT ?_ ?_); rfl; conv => arg 3; whnf) | ((with_reducible refine sat_brF ?_ ?_); rfl; conv => arg 3; whnf) | ((with_reducible refine sat_eqv ?_ ?_); rfl; conv => arg 3; whnf))
          refine sat_rng (wrap64 (by omega) (by omega)) ?_
          refine sat_ret ⟨⟨i + 1, by omega, ?_⟩, rfl, rfl, by show a.length - (i + 1) < a.length - i; omega⟩
          rw [take_succ_get hu, take_succ_get hv, heq, this]
      · have h : ¬ i < a.length := by simpa using h
        refine sat_ret ⟨rfl, .inr ⟨rfl, rfl, ?_⟩⟩
        rw [List.take_of_length_le (by omega), List.take_of_length_le (by omega)] at heq
        exact heq
    · rintro ex fr' H' ⟨rfl, ⟨rfl, rfl, h⟩ | ⟨rfl, rfl, h⟩⟩
      · exact sat_ret ⟨false, rfl, by simpa using h, rfl⟩
      · exact sat_ret ⟨true, rfl, by simpa using h, rfl⟩
theorem fits_b : ∀ {xs : List Tr}, AllB xs → Tr.fitsa xs (.int .u8) = true
  | [], _ => rfl
  | x :: xs, h => by
    obtain ⟨v, rfl, _⟩ := h x (by simp)
    show (true && Tr.fitsa xs (.int .u8)) = true
    rw [fits_b fun y hy => h y (by simp [hy])]; rfl
theorem fits_h {xs : List Tr} (h : AllB xs) : (Tr.arr 32 xs).fits (.arr 32 (.int .u8)) = true := by
  show (true && Tr.fitsa xs (.int .u8)) = true
  rw [fits_b h]; rfl
theorem eqbs_iff : ∀ {xs ys : List Tr}, AllB xs → AllB ys → (Tr.eqbs xs ys = true ↔ xs = ys)
  | [], [], _, _ => by simp [Tr.eqbs]
  | [], y :: ys, _, _ => by simp [Tr.eqbs]
  | x :: xs, [], _, _ => by simp [Tr.eqbs]
  | x :: xs, y :: ys, h1, h2 => by
    obtain ⟨a, rfl, _⟩ := h1 x (by simp)
    obtain ⟨b, rfl, _⟩ := h2 y (by simp)
    have ih := eqbs_iff (xs := xs) (ys := ys) (fun y hy => h1 y (by simp [hy])) (fun y hy => h2 y (by simp [hy]))
    show ((a == b) && Tr.eqbs xs ys) = true ↔ _
    simp [ih]
theorem Cm.ext' {c d : Cm} (h1 : c.kind = d.kind) (h2 : c.client = d.client) (h3 : c.seq = d.seq) (h4 : c.node = d.node) (h5 : c.epoch = d.epoch) (h6 : c.yes = d.yes) (h7 : c.hash = d.hash) (h8 : c.data = d.data) : c = d := by
  cases c; cases d; simp_all
theorem r_sameC (c d : Cm) (hc : c.OK) (hd : d.OK) : ACalls PP GG F.ref20_SameCmd [c.av, d.av] [] fun r H' => ∃ q, r = tb q ∧ (q = true ↔ c = d) ∧ H' = [] := by
  refine K.ref20_SameCmd.callsC rfl ?_
  (conv => arg 3; whnf); repeat (first | ((with_reducible refine sat_brT ?_ ?_); rfl; conv => arg 3; whnf) | ((with_reducible refine sat_brF ?_ ?_); rfl; conv => arg 3; whnf) | ((with_reducible refine sat_eqv ?_ ?_); rfl; conv => arg 3; whnf))
  generalize hkind : (c.kind == d.kind) = g
  cases g
  · (conv => arg 3; whnf); repeat (first | ((with_reducible refine sat_brT ?_ ?_); rfl; conv => arg 3; whnf) | ((with_reducible refine sat_brF ?_ ?_); rfl; conv => arg 3; whnf) | ((with_reducible refine sat_eqv ?_ ?_); rfl; conv => arg 3; whnf))
    exact sat_ret ⟨false, rfl, by constructor; (intro h; cases h); (rintro rfl; simp at hkind), rfl⟩
  (conv => arg 3; whnf); repeat (first | ((with_reducible refine sat_brT ?_ ?_); rfl; conv => arg 3; whnf) | ((with_reducible refine sat_brF ?_ ?_); rfl; conv => arg 3; whnf) | ((with_reducible refine sat_eqv ?_ ?_); rfl; conv => arg 3; whnf))
  generalize hclient : (c.client == d.client) = g
  cases g
  · (conv => arg 3; whnf); repeat (first | ((with_reducible refine sat_brT ?_ ?_); rfl; conv => arg 3; whnf) | ((with_reducible refine sat_brF ?_ ?_); rfl; conv => arg 3; whnf) | ((with_reducible refine sat_eqv ?_ ?_); rfl; conv => arg 3; whnf))
    exact sat_ret ⟨false, rfl, by constructor; (intro h; cases h); (rintro rfl; simp at hclient), rfl⟩
  (conv => arg 3; whnf); repeat (first | ((with_reducible refine sat_brT ?_ ?_); rfl; conv => arg 3; whnf) | ((with_reducible refine sat_brF ?_ ?_); rfl; conv => arg 3; whnf) | ((with_reducible refine sat_eqv ?_ ?_); rfl; conv => arg 3; whnf))
  generalize hseq : (c.seq == d.seq) = g
  cases g
  · (conv => arg 3; whnf); repeat (first | ((with_reducible refine sat_brT ?_ ?_); rfl; conv => arg 3; whnf) | ((with_reducible refine sat_brF ?_ ?_); rfl; conv => arg 3; whnf) | ((with_reducible refine sat_eqv ?_ ?_); rfl; conv => arg 3; whnf))
    exact sat_ret ⟨false, rfl, by constructor; (intro h; cases h); (rintro rfl; simp at hseq), rfl⟩
  (conv => arg 3; whnf); repeat (first | ((with_reducible refine sat_brT ?_ ?_); rfl; conv => arg 3; whnf) | ((with_reducible refine sat_brF ?_ ?_); rfl; conv => arg 3; whnf) | ((with_reducible refine sat_eqv ?_ ?_); rfl; conv => arg 3; whnf))
  generalize hnode : (c.node == d.node) = g
  cases g
  · (conv => arg 3; whnf); repeat (first | ((with_reducible refine sat_brT ?_ ?_); rfl; conv => arg 3; whnf) | ((with_reducible refine sat_brF ?_ ?_); rfl; conv => arg 3; whnf) | ((with_reducible refine sat_eqv ?_ ?_); rfl; conv => arg 3; whnf))
    exact sat_ret ⟨false, rfl, by constructor; (intro h; cases h); (rintro rfl; simp at hnode), rfl⟩
  (conv => arg 3; whnf); repeat (first | ((with_reducible refine sat_brT ?_ ?_); rfl; conv => arg 3; whnf) | ((with_reducible refine sat_brF ?_ ?_); rfl; conv => arg 3; whnf) | ((with_reducible refine sat_eqv ?_ ?_); rfl; conv => arg 3; whnf))
  generalize hepoch : (c.epoch == d.epoch) = g
  cases g
  · (conv => arg 3; whnf); repeat (first | ((with_reducible refine sat_brT ?_ ?_); rfl; conv => arg 3; whnf) | ((with_reducible refine sat_brF ?_ ?_); rfl; conv => arg 3; whnf) | ((with_reducible refine sat_eqv ?_ ?_); rfl; conv => arg 3; whnf))
    exact sat_ret ⟨false, rfl, by constructor; (intro h; cases h); (rintro rfl; simp at hepoch), rfl⟩
  (conv => arg 3; whnf); repeat (first | ((with_reducible refine sat_brT ?_ ?_); rfl; conv => arg 3; whnf) | ((with_reducible refine sat_brF ?_ ?_); rfl; conv => arg 3; whnf) | ((with_reducible refine sat_eqv ?_ ?_); rfl; conv => arg 3; whnf))
  generalize hyes : nb false (c.yes == d.yes) = g
  cases g
  · (conv => arg 3; whnf); repeat (first | ((with_reducible refine sat_brT ?_ ?_); rfl; conv => arg 3; whnf) | ((with_reducible refine sat_brF ?_ ?_); rfl; conv => arg 3; whnf) | ((with_reducible refine sat_eqv ?_ ?_); rfl; conv => arg 3; whnf))
    exact sat_ret ⟨false, rfl, by constructor; (intro h; cases h); (rintro rfl; simp [nb] at hyes), rfl⟩
  (conv => arg 3; whnf); repeat (first | ((with_reducible refine sat_brT ?_ ?_); rfl; conv => arg 3; whnf) | ((with_reducible refine sat_brF ?_ ?_); rfl; conv => arg 3; whnf) | ((with_reducible refine sat_eqv ?_ ?_); rfl; conv => arg 3; whnf))
  have hf1 := fits_h hc.hb
  have hf2 := fits_h hd.hb
  refine sat_asrt (by rw [hf1, hf2]; rfl) ?_
  (conv => arg 3; whnf); repeat (first | ((with_reducible refine sat_brT ?_ ?_); rfl; conv => arg 3; whnf) | ((with_reducible refine sat_brF ?_ ?_); rfl; conv => arg 3; whnf) | ((with_reducible refine sat_eqv ?_ ?_); rfl; conv => arg 3; whnf))
  generalize hhash : nb false ((Tr.arr 32 c.hash).eqb (Tr.arr 32 d.hash)) = g
  cases g
  · (conv => arg 3; whnf); repeat (first | ((with_reducible refine sat_brT ?_ ?_); rfl; conv => arg 3; whnf) | ((with_reducible refine sat_brF ?_ ?_); rfl; conv => arg 3; whnf) | ((with_reducible refine sat_eqv ?_ ?_); rfl; conv => arg 3; whnf))
    exact sat_ret ⟨false, rfl, by constructor; (intro h; cases h); (rintro rfl; rw [show nb false ((Tr.arr 32 c.hash).eqb (Tr.arr 32 c.hash)) = Tr.eqbs c.hash c.hash from rfl, (eqbs_iff hc.hb hc.hb).2 rfl] at hhash; cases hhash), rfl⟩
  (conv => arg 3; whnf); repeat (first | ((with_reducible refine sat_brT ?_ ?_); rfl; conv => arg 3; whnf) | ((with_reducible refine sat_brF ?_ ?_); rfl; conv => arg 3; whnf) | ((with_reducible refine sat_eqv ?_ ?_); rfl; conv => arg 3; whnf))
  refine sat_call (r_sameB c.data d.data hc.db hd.db (by have := hc.dl; omega)) ?_
  rintro r H' ⟨q, rfl, hq, rfl⟩
  (conv => arg 3; whnf); repeat (first | ((with_reducible refine sat_brT ?_ ?_); rfl; conv => arg 3; whnf) | ((with_reducible refine sat_brF ?_ ?_); rfl; conv => arg 3; whnf) | ((with_reducible refine sat_eqv ?_ ?_); rfl; conv => arg 3; whnf))
  refine sat_ret ⟨q, rfl, ?_, rfl⟩
  rw [hq]
  constructor
  · intro h8
    refine Cm.ext' (by simpa using hkind) (by simpa using hclient) (by simpa using hseq) (by simpa using hnode) (by simpa using hepoch) (by simpa [nb] using hyes) ((eqbs_iff hc.hb hd.hb).1 hhash) h8
  · rintro rfl; rfl
theorem r_sameE (c d : En) (hc : c.cmd.OK) (hd : d.cmd.OK) : ACalls PP GG F.ref20_SameEntry [c.av, d.av] [] fun r H' => ∃ q, r = tb q ∧ (q = true ↔ c = d) ∧ H' = [] := by
  refine K.ref20_SameEntry.callsC rfl ?_
  (conv => arg 3; whnf); repeat (first | ((with_reducible refine sat_brT ?_ ?_); rfl; conv => arg 3; whnf) | ((with_reducible refine sat_brF ?_ ?_); rfl; conv => arg 3; whnf) | ((with_reducible refine sat_eqv ?_ ?_); rfl; conv => arg 3; whnf))
  generalize hterm : (c.term == d.term) = g
  cases g
  · (conv => arg 3; whnf); repeat (first | ((with_reducible refine sat_brT ?_ ?_); rfl; conv => arg 3; whnf) | ((with_reducible refine sat_brF ?_ ?_); rfl; conv => arg 3; whnf) | ((with_reducible refine sat_eqv ?_ ?_); rfl; conv => arg 3; whnf))
    exact sat_ret ⟨false, rfl, by constructor; (intro h; cases h); (rintro rfl; simp at hterm), rfl⟩
  (conv => arg 3; whnf); repeat (first | ((with_reducible refine sat_brT ?_ ?_); rfl; conv => arg 3; whnf) | ((with_reducible refine sat_brF ?_ ?_); rfl; conv => arg 3; whnf) | ((with_reducible refine sat_eqv ?_ ?_); rfl; conv => arg 3; whnf))
  refine sat_call (r_sameC c.cmd d.cmd hc hd) ?_
  rintro r H' ⟨q, rfl, hq, rfl⟩
  (conv => arg 3; whnf); repeat (first | ((with_reducible refine sat_brT ?_ ?_); rfl; conv => arg 3; whnf) | ((with_reducible refine sat_brF ?_ ?_); rfl; conv => arg 3; whnf) | ((with_reducible refine sat_eqv ?_ ?_); rfl; conv => arg 3; whnf))
  refine sat_ret ⟨q, rfl, ?_, rfl⟩
  rw [hq]
  cases c; cases d
  simp at hterm
  simp [hterm]
theorem k_large (c : Cm) : ACalls PP GG F.law20_large [c.av] [] fun r H' => r = tb (decide ((c.data.length : Int) > 70000)) ∧ H' = [] := by
  refine K.law20_large.callsC rfl ?_
  (conv => arg 3; whnf); repeat (first | ((with_reducible refine sat_brT ?_ ?_); rfl; conv => arg 3; whnf) | ((with_reducible refine sat_brF ?_ ?_); rfl; conv => arg 3; whnf) | ((with_reducible refine sat_eqv ?_ ?_); rfl; conv => arg 3; whnf))
  exact sat_ret ⟨rfl, rfl⟩
theorem r_ownC (c : Cm) (hc : c.OK) : ACalls PP GG F.ref20_OwnCmd [c.av] [] fun r H' => r = c.ao 0 ∧ H' = [.row 1 c.data] := by
  have := hc.dl
  refine K.ref20_OwnCmd.callsC rfl ?_
  (conv => arg 3; whnf); repeat (first | ((with_reducible refine sat_brT ?_ ?_); rfl; conv => arg 3; whnf) | ((with_reducible refine sat_brF ?_ ?_); rfl; conv => arg 3; whnf) | ((with_reducible refine sat_eqv ?_ ?_); rfl; conv => arg 3; whnf))
  refine sat_asrt (by first | rfl | (simp; done) | (simp; omega)) ?_
  refine sat_asrt (by simp [roomy]; omega) ?_
  (conv => arg 3; whnf); repeat (first | ((with_reducible refine sat_brT ?_ ?_); rfl; conv => arg 3; whnf) | ((with_reducible refine sat_brF ?_ ?_); rfl; conv => arg 3; whnf) | ((with_reducible refine sat_eqv ?_ ?_); rfl; conv => arg 3; whnf))
  exact sat_ret ⟨by simp, by simp⟩
structure SpL (L : List Tr) where
  xs : List Tr
  i : Nat
  len : xs.length = L.length
  le : i ≤ L.length
  b : AllB xs
theorem AllB.set {xs : List Tr} (h : AllB xs) (i : Nat) {v : Int} (hv : 0 ≤ v ∧ v ≤ 255) : AllB (xs.set i (u8 v)) := fun y hy => by
  rcases List.mem_or_eq_of_mem_set hy with hy | rfl
  · exact h y hy
  · exact ⟨v, rfl, hv⟩
theorem k_spoil (L : List Tr) (hL : AllB L) (hl : L.length ≤ 2 ^ 50) (cap : Option Nat) : ACalls PP GG F.law20_spoil [.sl 0 0 [] 0 L.length cap] [.row 1 L] fun r H' => r = .tup [] ∧ H' = [.gone] := by
  refine K.law20_spoil.callsC rfl ?_
  (conv => arg 3; whnf); repeat (first | ((with_reducible refine sat_brT ?_ ?_); rfl; conv => arg 3; whnf) | ((with_reducible refine sat_brF ?_ ?_); rfl; conv => arg 3; whnf) | ((with_reducible refine sat_eqv ?_ ?_); rfl; conv => arg 3; whnf))
  refine sat_loopOf mkX_ops (σ := SpL L) (fun x => [(0, .sl 0 0 [] 0 L.length cap), (2, ti x.i)]) (fun x => [.row 1 x.xs]) (fun x => L.length - x.i)
    (fun ex fr' H' => ∃ xs, H' = [.row 1 xs] ∧ ex = .exit 0 ∧ fr' = []) ⟨L, 0, rfl, Nat.zero_le _, hL⟩ ?_ ?_
  · rintro ⟨xs, i, hx, hi, hb⟩
    dsimp only
    (conv => arg 3; whnf); repeat (first | ((with_reducible refine sat_brT ?_ ?_); rfl; conv => arg 3; whnf) | ((with_reducible refine sat_brF ?_ ?_); rfl; conv => arg 3; whnf) | ((with_reducible refine sat_eqv ?_ ?_); rfl; conv => arg 3; whnf))
    refine sat_br (fun h => ?_) (fun h => ?_)
    · have h := of_decide_eq_true h
      (conv => arg 3; whnf); repeat (first | ((with_reducible refine sat_brT ?_ ?_); rfl; conv => arg 3; whnf) | ((with_reducible refine sat_brF ?_ ?_); rfl; conv => arg 3; whnf) | ((with_reducible refine sat_eqv ?_ ?_); rfl; conv => arg 3; whnf))
      refine sat_asrt (by simp; omega) ?_
      (conv => arg 3; whnf); repeat (first | ((with_reducible refine sat_brT ?_ ?_); rfl; conv => arg 3; whnf) | ((with_reducible refine sat_brF ?_ ?_); rfl; conv => arg 3; whnf) | ((with_reducible refine sat_eqv ?_ ?_); rfl; conv => arg 3; whnf))
      obtain ⟨v, hv, _⟩ := hb.get (show i < xs.length by omega)
      refine sat_idx (u8 v) (by omega) (by rw [show (((0 + (i : Int).toNat : Nat) : Int)).toNat = i by omega]; exact hv) ?_
      (conv => arg 3; whnf); repeat (first | ((with_reducible refine sat_brT ?_ ?_); rfl; conv => arg 3; whnf) | ((with_reducible refine sat_brF ?_ ?_); rfl; conv => arg 3; whnf) | ((with_reducible refine sat_eqv ?_ ?_); rfl; conv => arg 3; whnf))
      refine sat_rng (wrap64 (by omega) (by omega)) ?_
      exact sat_ret ⟨⟨_, i + 1, by rw [List.length_set]; exact hx, by omega, hb.set _ (by omega)⟩, rfl, rfl, by show L.length - (i + 1) < L.length - i; omega⟩
    · have h := of_decide_eq_false h
      exact sat_ret ⟨xs, rfl, rfl, rfl⟩
  · rintro ex fr' H' ⟨xs, rfl, rfl, rfl⟩
    (conv => arg 3; whnf); repeat (first | ((with_reducible refine sat_brT ?_ ?_); rfl; conv => arg 3; whnf) | ((with_reducible refine sat_brF ?_ ?_); rfl; conv => arg 3; whnf) | ((with_reducible refine sat_eqv ?_ ?_); rfl; conv => arg 3; whnf))
    exact sat_ret ⟨rfl, rfl⟩
end Stk
