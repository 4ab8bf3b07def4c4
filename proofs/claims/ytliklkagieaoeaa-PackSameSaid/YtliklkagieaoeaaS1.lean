/- The program's comparisons. -/
import Derived.Test.YtliklkagieaoeaaP13
namespace Stk
open Go
set_option maxRecDepth 100000
set_option linter.unusedSimpArgs false
set_option linter.unusedVariables false
set_option maxHeartbeats 4000000
theorem k_eqB (a b : List Tr) (ha : AllB a) (hb : AllB b) (hl : a.length ≤ 2 ^ 50) : ACalls PP GG F.slices_Equal_byte_byte [.bz 1 a, .bz 1 b] [] fun r H' => ∃ q, r = tb q ∧ (q = true ↔ a = b) ∧ H' = [] := by
  refine K.slices_Equal_byte_byte.callsC rfl ?_
  refine sat_br (fun h => ?_) (fun h => ?_)
  · refine sat_ret ⟨false, rfl, ?_, rfl⟩
    simp at h
    simp
    rintro rfl
    exact h rfl
  · have hab : a.length = b.length := by simp at h; omega
    refine sat_loopOf mkX_ops (σ := SaSt a b) (fun x => [(0, .bz 1 a), (1, .bz 1 b), (12, ti a.length), (13, ti x.i)]) (fun _ => []) (fun x => a.length - x.i)
      (fun ex fr' H' => H' = [] ∧ ((ex = .ret ∧ fr' = [(4, tb false)] ∧ a ≠ b) ∨ (ex = .exit 0 ∧ fr' = [(4, .undef)] ∧ a = b))) ⟨0, Nat.zero_le _, rfl⟩ ?_ ?_
    · rintro ⟨i, hi, heq⟩
      dsimp only
      refine sat_br (fun h => ?_) (fun h => ?_)
      · have h : i < a.length := by simpa using h
        obtain ⟨u, hu, _⟩ := ha.get h
        obtain ⟨v, hv, _⟩ := hb.get (show i < b.length by omega)
        (conv => arg 3; whnf); repeat (first | ((with_reducible refine sat_brT ?_ ?_); rfl; conv => arg 3; whnf) | ((with_reducible refine sat_brF ?_ ?_); rfl; conv => arg 3; whnf) | ((with_reducible refine sat_eqv ?_ ?_); rfl; conv => arg 3; whnf))
        refine sat_idx (.int .u8 u) (by simp) (by simpa using hu) ?_
        refine sat_idx (.int .u8 v) (by simp) (by simpa using hv) ?_
        refine sat_br (fun h2 => ?_) (fun h2 => ?_)
        · refine sat_ret ⟨rfl, .inl ⟨rfl, rfl, ?_⟩⟩
          rintro rfl
          rw [hu] at hv
          have : u = v := by simpa using hv
          simp [this] at h2
        · have : u = v := by simpa using h2
          (conv => arg 3; whnf); repeat (first | ((with_reducible refine sat_brT ?_ ?_); rfl; conv => arg 3; whnf) | ((with_reducible refine sat_brF ?_ ?_); rfl; conv => arg 3; whnf) | ((with_reducible refine sat_eqv ?_ ?_); rfl; conv => arg 3; whnf))
          refine sat_rng (wrap64 (by omega) (by omega)) ?_
          refine sat_ret ⟨⟨i + 1, by omega, ?_⟩, rfl, rfl, by show a.length - (i + 1) < a.length - i; omega⟩
          rw [take_succ_get hu, take_succ_get hv, heq, this]
      · have h : ¬ i < a.length := by simpa using h
        refine sat_ret ⟨rfl, .inr ⟨rfl, rfl, ?_⟩⟩
        rw [List.take_of_length_le (by omega), List.take_of_length_le (by omega)] at heq
        exact heq
    · rintro ex fr' H' ⟨rfl, ⟨rfl, rfl, h⟩ | ⟨rfl, rfl, h⟩⟩
      · exact sat_ret ⟨false, rfl, by simpa using h, rfl⟩
      · exact sat_ret ⟨true, rfl, by simpa using h, rfl⟩
theorem k_sameC (c d : Cm) (hc : c.OK) (hd : d.OK) : ACalls PP GG F.pack_SameCmd [c.av, d.av] [] fun r H' => ∃ q, r = tb q ∧ (q = true ↔ c = d) ∧ H' = [] := by
  refine K.pack_SameCmd.callsC rfl ?_
  (conv => arg 3; whnf); repeat (first | ((with_reducible refine sat_brT ?_ ?_); rfl; conv => arg 3; whnf) | ((with_reducible refine sat_brF ?_ ?_); rfl; conv => arg 3; whnf) | ((with_reducible refine sat_eqv ?_ ?_); rfl; conv => arg 3; whnf))
  refine sat_call (k_eqB c.data d.data hc.db hd.db (by have := hc.dl; omega)) ?_
  rintro r H' ⟨q, rfl, hq, rfl⟩
  cases q
  · (conv => arg 3; whnf); repeat (first | ((with_reducible refine sat_brT ?_ ?_); rfl; conv => arg 3; whnf) | ((with_reducible refine sat_brF ?_ ?_); rfl; conv => arg 3; whnf) | ((with_reducible refine sat_eqv ?_ ?_); rfl; conv => arg 3; whnf))
    exact sat_ret ⟨false, rfl, by constructor; (intro h; cases h); (rintro rfl; exact absurd (hq.2 rfl) (by decide)), rfl⟩
  have h8 := hq.1 rfl
  (conv => arg 3; whnf); repeat (first | ((with_reducible refine sat_brT ?_ ?_); rfl; conv => arg 3; whnf) | ((with_reducible refine sat_brF ?_ ?_); rfl; conv => arg 3; whnf) | ((with_reducible refine sat_eqv ?_ ?_); rfl; conv => arg 3; whnf))
  have hf1 := fits_h hc.hb
  have hf2 := fits_h hd.hb
  refine sat_asrt (by rw [hf1, hf2]; rfl) ?_
  (conv => arg 3; whnf); repeat (first | ((with_reducible refine sat_brT ?_ ?_); rfl; conv => arg 3; whnf) | ((with_reducible refine sat_brF ?_ ?_); rfl; conv => arg 3; whnf) | ((with_reducible refine sat_eqv ?_ ?_); rfl; conv => arg 3; whnf))
  generalize hhash : nb true ((Tr.arr 32 c.hash).eqb (Tr.arr 32 d.hash)) = g
  cases g
  rotate_left
  · (conv => arg 3; whnf); repeat (first | ((with_reducible refine sat_brT ?_ ?_); rfl; conv => arg 3; whnf) | ((with_reducible refine sat_brF ?_ ?_); rfl; conv => arg 3; whnf) | ((with_reducible refine sat_eqv ?_ ?_); rfl; conv => arg 3; whnf))
    exact sat_ret ⟨false, rfl, by constructor; (intro h; cases h); (rintro rfl; rw [show nb true ((Tr.arr 32 c.hash).eqb (Tr.arr 32 c.hash)) = !(Tr.eqbs c.hash c.hash) from rfl, (eqbs_iff hc.hb hc.hb).2 rfl] at hhash; cases hhash), rfl⟩
  have h7 : c.hash = d.hash := (eqbs_iff hc.hb hd.hb).1 (by
    have : (!(Tr.eqbs c.hash d.hash)) = false := hhash
    simpa using this)
  (conv => arg 3; whnf); repeat (first | ((with_reducible refine sat_brT ?_ ?_); rfl; conv => arg 3; whnf) | ((with_reducible refine sat_brF ?_ ?_); rfl; conv => arg 3; whnf) | ((with_reducible refine sat_eqv ?_ ?_); rfl; conv => arg 3; whnf))
  generalize hkind : (c.kind == d.kind) = g
  cases g
  · (conv => arg 3; whnf); repeat (first | ((with_reducible refine sat_brT ?_ ?_); rfl; conv => arg 3; whnf) | ((with_reducible refine sat_brF ?_ ?_); rfl; conv => arg 3; whnf) | ((with_reducible refine sat_eqv ?_ ?_); rfl; conv => arg 3; whnf))
    exact sat_ret ⟨false, rfl, by constructor; (intro h; cases h); (rintro rfl; simp at hkind), rfl⟩
  (conv => arg 3; whnf); repeat (first | ((with_reducible refine sat_brT ?_ ?_); rfl; conv => arg 3; whnf) | ((with_reducible refine sat_brF ?_ ?_); rfl; conv => arg 3; whnf) | ((with_reducible refine sat_eqv ?_ ?_); rfl; conv => arg 3; whnf))
  generalize hclient : (c.client == d.client) = g
  cases g
  · (conv => arg 3; whnf); repeat (first | ((with_reducible refine sat_brT ?_ ?_); rfl; conv => arg 3; whnf) | ((with_reducible refine sat_brF ?_ ?_); rfl; conv => arg 3; whnf) | ((with_reducible refine sat_eqv ?_ ?_); rfl; conv => arg 3; whnf))
    exact sat_ret ⟨false, rfl, by constructor; (intro h; cases h); (rintro rfl; simp at hclient), rfl⟩
  (conv => arg 3; whnf); repeat (first | ((with_reducible refine sat_brT ?_ ?_); rfl; conv => arg 3; whnf) | ((with_reducible refine sat_brF ?_ ?_); rfl; conv => arg 3; whnf) | ((with_reducible refine sat_eqv ?_ ?_); rfl; conv => arg 3; whnf))
  generalize hseq : (c.seq == d.seq) = g
  cases g
  · (conv => arg 3; whnf); repeat (first | ((with_reducible refine sat_brT ?_ ?_); rfl; conv => arg 3; whnf) | ((with_reducible refine sat_brF ?_ ?_); rfl; conv => arg 3; whnf) | ((with_reducible refine sat_eqv ?_ ?_); rfl; conv => arg 3; whnf))
    exact sat_ret ⟨false, rfl, by constructor; (intro h; cases h); (rintro rfl; simp at hseq), rfl⟩
  (conv => arg 3; whnf); repeat (first | ((with_reducible refine sat_brT ?_ ?_); rfl; conv => arg 3; whnf) | ((with_reducible refine sat_brF ?_ ?_); rfl; conv => arg 3; whnf) | ((with_reducible refine sat_eqv ?_ ?_); rfl; conv => arg 3; whnf))
  generalize hnode : (c.node == d.node) = g
  cases g
  · (conv => arg 3; whnf); repeat (first | ((with_reducible refine sat_brT ?_ ?_); rfl; conv => arg 3; whnf) | ((with_reducible refine sat_brF ?_ ?_); rfl; conv => arg 3; whnf) | ((with_reducible refine sat_eqv ?_ ?_); rfl; conv => arg 3; whnf))
    exact sat_ret ⟨false, rfl, by constructor; (intro h; cases h); (rintro rfl; simp at hnode), rfl⟩
  (conv => arg 3; whnf); repeat (first | ((with_reducible refine sat_brT ?_ ?_); rfl; conv => arg 3; whnf) | ((with_reducible refine sat_brF ?_ ?_); rfl; conv => arg 3; whnf) | ((with_reducible refine sat_eqv ?_ ?_); rfl; conv => arg 3; whnf))
  generalize hepoch : (c.epoch == d.epoch) = g
  cases g
  · (conv => arg 3; whnf); repeat (first | ((with_reducible refine sat_brT ?_ ?_); rfl; conv => arg 3; whnf) | ((with_reducible refine sat_brF ?_ ?_); rfl; conv => arg 3; whnf) | ((with_reducible refine sat_eqv ?_ ?_); rfl; conv => arg 3; whnf))
    exact sat_ret ⟨false, rfl, by constructor; (intro h; cases h); (rintro rfl; simp at hepoch), rfl⟩
  (conv => arg 3; whnf); repeat (first | ((with_reducible refine sat_brT ?_ ?_); rfl; conv => arg 3; whnf) | ((with_reducible refine sat_brF ?_ ?_); rfl; conv => arg 3; whnf) | ((with_reducible refine sat_eqv ?_ ?_); rfl; conv => arg 3; whnf))
  refine sat_ret ⟨_, rfl, ?_, rfl⟩
  constructor
  · intro hyes
    exact Cm.ext' (by simpa using hkind) (by simpa using hclient) (by simpa using hseq) (by simpa using hnode) (by simpa using hepoch) (by simpa [nb] using hyes) h7 h8
  · rintro rfl; simp [nb]
theorem k_sameE (c d : En) (hc : c.cmd.OK) (hd : d.cmd.OK) : ACalls PP GG F.pack_SameEntry [c.av, d.av] [] fun r H' => ∃ q, r = tb q ∧ (q = true ↔ c = d) ∧ H' = [] := by
  refine K.pack_SameEntry.callsC rfl ?_
  (conv => arg 3; whnf); repeat (first | ((with_reducible refine sat_brT ?_ ?_); rfl; conv => arg 3; whnf) | ((with_reducible refine sat_brF ?_ ?_); rfl; conv => arg 3; whnf) | ((with_reducible refine sat_eqv ?_ ?_); rfl; conv => arg 3; whnf))
  generalize hterm : (c.term == d.term) = g
  cases g
  · (conv => arg 3; whnf); repeat (first | ((with_reducible refine sat_brT ?_ ?_); rfl; conv => arg 3; whnf) | ((with_reducible refine sat_brF ?_ ?_); rfl; conv => arg 3; whnf) | ((with_reducible refine sat_eqv ?_ ?_); rfl; conv => arg 3; whnf))
    exact sat_ret ⟨false, rfl, by constructor; (intro h; cases h); (rintro rfl; simp at hterm), rfl⟩
  (conv => arg 3; whnf); repeat (first | ((with_reducible refine sat_brT ?_ ?_); rfl; conv => arg 3; whnf) | ((with_reducible refine sat_brF ?_ ?_); rfl; conv => arg 3; whnf) | ((with_reducible refine sat_eqv ?_ ?_); rfl; conv => arg 3; whnf))
  refine sat_call (k_sameC c.cmd d.cmd hc hd) ?_
  rintro r H' ⟨q, rfl, hq, rfl⟩
  (conv => arg 3; whnf); repeat (first | ((with_reducible refine sat_brT ?_ ?_); rfl; conv => arg 3; whnf) | ((with_reducible refine sat_brF ?_ ?_); rfl; conv => arg 3; whnf) | ((with_reducible refine sat_eqv ?_ ?_); rfl; conv => arg 3; whnf))
  refine sat_ret ⟨q, rfl, ?_, rfl⟩
  rw [hq]
  cases c; cases d
  simp at hterm
  simp [hterm]
theorem k_sameEs (a b : List (En × Bool)) (ha : ∀ p ∈ a, p.1.cmd.OK) (hb : ∀ p ∈ b, p.1.cmd.OK) (hl : a.length ≤ 2 ^ 50) : ACalls PP GG F.slices_EqualFunc_api_Entry_api_Entry_api_Entry_api_Entry [.bz 40 (a.map eT), .bz 40 (b.map eT), .fn F.pack_SameEntry [] []] [] fun r H' => ∃ q, r = tb q ∧ (q = true ↔ a.map Prod.fst = b.map Prod.fst) ∧ H' = [] := by
  refine K.slices_EqualFunc_api_Entry_api_Entry_api_Entry_api_Entry.callsC rfl ?_
  refine sat_br (fun h => ?_) (fun h => ?_)
  · refine sat_ret ⟨false, rfl, ?_, rfl⟩
    simp at h
    simp
    intro h2
    have := congrArg List.length h2
    simp at this
    omega
  · have hab : a.length = b.length := by simp at h; omega
    refine sat_loopOf mkX_ops (σ := SaSt (a.map Prod.fst) (b.map Prod.fst)) (fun x => [(1, .bz 40 (b.map eT)), (2, .fn F.pack_SameEntry [] []), (15, .bz 40 (a.map eT)), (16, ti (a.map eT).length), (17, ti x.i)]) (fun _ => []) (fun x => a.length - x.i)
      (fun ex fr' H' => (ex = .ret ∧ fr' = [(6, tb false)] ∧ (∃ u v : En × Bool, H' = [.var (.t (eT u)), .var (.t (eT v))]) ∧ a.map Prod.fst ≠ b.map Prod.fst) ∨ (ex = .exit 0 ∧ fr' = [(6, .undef)] ∧ H' = [] ∧ a.map Prod.fst = b.map Prod.fst)) ⟨0, Nat.zero_le _, rfl⟩ ?_ ?_
    · rintro ⟨i, hi, heq⟩
      dsimp only
      refine sat_br (fun h => ?_) (fun h => ?_)
      · have h : i < a.length := by simpa using h
        have hu : a[i]? = some a[i] := List.getElem?_eq_getElem h
        have hv : b[i]? = some (b[i]'(by omega)) := List.getElem?_eq_getElem (by omega)
        generalize a[i] = u at *
        generalize b[i]'(by omega) = v at *
        have hu1 := ha _ (List.mem_of_getElem? hu)
        have hv1 := hb _ (List.mem_of_getElem? hv)
        have hu2 : (a.map Prod.fst)[i]? = some u.1 := by rw [List.getElem?_map, hu]; rfl
        have hv2 : (b.map Prod.fst)[i]? = some v.1 := by rw [List.getElem?_map, hv]; rfl
        (conv => arg 3; whnf); repeat (first | ((with_reducible refine sat_brT ?_ ?_); rfl; conv => arg 3; whnf) | ((with_reducible refine sat_brF ?_ ?_); rfl; conv => arg 3; whnf) | ((with_reducible refine sat_eqv ?_ ?_); rfl; conv => arg 3; whnf))
        refine sat_idx (eT u) (by simp) (by rw [Int.toNat_natCast, List.getElem?_map, hu]; rfl) ?_
        (conv => arg 3; whnf); repeat (first | ((with_reducible refine sat_brT ?_ ?_); rfl; conv => arg 3; whnf) | ((with_reducible refine sat_brF ?_ ?_); rfl; conv => arg 3; whnf) | ((with_reducible refine sat_eqv ?_ ?_); rfl; conv => arg 3; whnf))
        refine sat_idx (eT v) (by simp) (by rw [Int.toNat_natCast, List.getElem?_map, hv]; rfl) ?_
        (conv => arg 3; whnf); repeat (first | ((with_reducible refine sat_brT ?_ ?_); rfl; conv => arg 3; whnf) | ((with_reducible refine sat_brF ?_ ?_); rfl; conv => arg 3; whnf) | ((with_reducible refine sat_eqv ?_ ?_); rfl; conv => arg 3; whnf))
        refine sat_call (k_sameE u.1 v.1 hu1 hv1) ?_
        rintro r H' ⟨q, rfl, hq, rfl⟩
        (conv => arg 3; whnf); repeat (first | ((with_reducible refine sat_brT ?_ ?_); rfl; conv => arg 3; whnf) | ((with_reducible refine sat_brF ?_ ?_); rfl; conv => arg 3; whnf) | ((with_reducible refine sat_eqv ?_ ?_); rfl; conv => arg 3; whnf))
        refine sat_br (fun h2 => ?_) (fun h2 => ?_)
        · refine sat_ret (.inl ⟨rfl, rfl, ⟨u, v, rfl⟩, ?_⟩)
          intro he
          rw [he] at hu2
          have : u.1 = v.1 := by rw [hu2] at hv2; exact Option.some.inj hv2
          simp [hq.2 this] at h2
        · have : u.1 = v.1 := hq.1 (by simpa using h2)
          (conv => arg 3; whnf); repeat (first | ((with_reducible refine sat_brT ?_ ?_); rfl; conv => arg 3; whnf) | ((with_reducible refine sat_brF ?_ ?_); rfl; conv => arg 3; whnf) | ((with_reducible refine sat_eqv ?_ ?_); rfl; conv => arg 3; whnf))
          refine sat_rng (wrap64 (by omega) (by omega)) ?_
          refine sat_ret ⟨⟨i + 1, by rw [List.length_map]; omega, ?_⟩, rfl, rfl, by show a.length - (i + 1) < a.length - i; omega⟩
          rw [take_succ_get hu2, take_succ_get hv2, heq, this]
      · have h : ¬ i < a.length := by simpa using h
        refine sat_ret (.inr ⟨rfl, rfl, rfl, ?_⟩)
        rw [List.take_of_length_le (by rw [List.length_map]; omega), List.take_of_length_le (by rw [List.length_map]; omega)] at heq
        exact heq
    · rintro ex fr' H' (⟨rfl, rfl, ⟨u, v, rfl⟩, h⟩ | ⟨rfl, rfl, rfl, h⟩)
      · exact sat_ret ⟨false, rfl, by simpa using h, rfl⟩
      · exact sat_ret ⟨true, rfl, by simpa using h, rfl⟩
theorem k_sameM (m n : Ms) (hm : m.OK) (hn : n.OK) : ACalls PP GG F.pack_SameMsg [m.av, n.av] [] fun r H' => ∃ q, r = tb q ∧ (q = true ↔ m.sm n) ∧ H' = [] := by
  refine K.pack_SameMsg.callsC rfl ?_
  (conv => arg 3; whnf); repeat (first | ((with_reducible refine sat_brT ?_ ?_); rfl; conv => arg 3; whnf) | ((with_reducible refine sat_brF ?_ ?_); rfl; conv => arg 3; whnf) | ((with_reducible refine sat_eqv ?_ ?_); rfl; conv => arg 3; whnf))
  refine sat_call (k_sameEs m.es n.es (fun p hp => (hm.e p hp).1) (fun p hp => (hn.e p hp).1) (by have := hm.el; omega)) ?_
  rintro r H' ⟨q, rfl, hq2, rfl⟩
  cases q
  · (conv => arg 3; whnf); repeat (first | ((with_reducible refine sat_brT ?_ ?_); rfl; conv => arg 3; whnf) | ((with_reducible refine sat_brF ?_ ?_); rfl; conv => arg 3; whnf) | ((with_reducible refine sat_eqv ?_ ?_); rfl; conv => arg 3; whnf))
    exact sat_ret ⟨false, rfl, by constructor; (intro h; cases h); (rintro ⟨s1, s2, s3, s4, s5, s6, s7⟩; exact absurd (hq2.2 s7) (by decide)), rfl⟩
  (conv => arg 3; whnf); repeat (first | ((with_reducible refine sat_brT ?_ ?_); rfl; conv => arg 3; whnf) | ((with_reducible refine sat_brF ?_ ?_); rfl; conv => arg 3; whnf) | ((with_reducible refine sat_eqv ?_ ?_); rfl; conv => arg 3; whnf))
  refine sat_call (k_eqB m.data n.data hm.db hn.db (by have := hm.dl; omega)) ?_
  rintro r H' ⟨q, rfl, hq, rfl⟩
  cases q
  · (conv => arg 3; whnf); repeat (first | ((with_reducible refine sat_brT ?_ ?_); rfl; conv => arg 3; whnf) | ((with_reducible refine sat_brF ?_ ?_); rfl; conv => arg 3; whnf) | ((with_reducible refine sat_eqv ?_ ?_); rfl; conv => arg 3; whnf))
    exact sat_ret ⟨false, rfl, by constructor; (intro h; cases h); (rintro ⟨s1, s2, s3, s4, s5, s6, s7⟩; exact absurd (hq.2 s6) (by decide)), rfl⟩
  (conv => arg 3; whnf); repeat (first | ((with_reducible refine sat_brT ?_ ?_); rfl; conv => arg 3; whnf) | ((with_reducible refine sat_brF ?_ ?_); rfl; conv => arg 3; whnf) | ((with_reducible refine sat_eqv ?_ ?_); rfl; conv => arg 3; whnf))
  have hf1' := fits_h hm.hb
  have hf2' := fits_h hn.hb
  refine sat_asrt (by rw [hf1', hf2']; rfl) ?_
  (conv => arg 3; whnf); repeat (first | ((with_reducible refine sat_brT ?_ ?_); rfl; conv => arg 3; whnf) | ((with_reducible refine sat_brF ?_ ?_); rfl; conv => arg 3; whnf) | ((with_reducible refine sat_eqv ?_ ?_); rfl; conv => arg 3; whnf))
  generalize hhash : nb true ((Tr.arr 32 m.hash).eqb (Tr.arr 32 n.hash)) = g
  cases g
  rotate_left
  · (conv => arg 3; whnf); repeat (first | ((with_reducible refine sat_brT ?_ ?_); rfl; conv => arg 3; whnf) | ((with_reducible refine sat_brF ?_ ?_); rfl; conv => arg 3; whnf) | ((with_reducible refine sat_eqv ?_ ?_); rfl; conv => arg 3; whnf))
    exact sat_ret ⟨false, rfl, by constructor; (intro h; cases h); (rintro ⟨s1, s2, s3, s4, s5, s6, s7⟩; rw [s5, show nb true ((Tr.arr 32 n.hash).eqb (Tr.arr 32 n.hash)) = !(Tr.eqbs n.hash n.hash) from rfl, (eqbs_iff hn.hb hn.hb).2 rfl] at hhash; cases hhash), rfl⟩
  have h5 : m.hash = n.hash := (eqbs_iff hm.hb hn.hb).1 (by
    have : (!(Tr.eqbs m.hash n.hash)) = false := hhash
    simpa using this)
  (conv => arg 3; whnf); repeat (first | ((with_reducible refine sat_brT ?_ ?_); rfl; conv => arg 3; whnf) | ((with_reducible refine sat_brF ?_ ?_); rfl; conv => arg 3; whnf) | ((with_reducible refine sat_eqv ?_ ?_); rfl; conv => arg 3; whnf))
  generalize hf0 : (m.kind == n.kind) = g
  cases g
  · (conv => arg 3; whnf); repeat (first | ((with_reducible refine sat_brT ?_ ?_); rfl; conv => arg 3; whnf) | ((with_reducible refine sat_brF ?_ ?_); rfl; conv => arg 3; whnf) | ((with_reducible refine sat_eqv ?_ ?_); rfl; conv => arg 3; whnf))
    exact sat_ret ⟨false, rfl, by constructor; (intro h; cases h); (rintro ⟨s1, s2, s3, s4, s5, s6, s7⟩; simp [s1] at hf0), rfl⟩
  (conv => arg 3; whnf); repeat (first | ((with_reducible refine sat_brT ?_ ?_); rfl; conv => arg 3; whnf) | ((with_reducible refine sat_brF ?_ ?_); rfl; conv => arg 3; whnf) | ((with_reducible refine sat_eqv ?_ ?_); rfl; conv => arg 3; whnf))
  generalize hf1 : (m.ns.getD 0 0 == n.ns.getD 0 0) = g
  cases g
  · (conv => arg 3; whnf); repeat (first | ((with_reducible refine sat_brT ?_ ?_); rfl; conv => arg 3; whnf) | ((with_reducible refine sat_brF ?_ ?_); rfl; conv => arg 3; whnf) | ((with_reducible refine sat_eqv ?_ ?_); rfl; conv => arg 3; whnf))
    exact sat_ret ⟨false, rfl, by constructor; (intro h; cases h); (rintro ⟨s1, s2, s3, s4, s5, s6, s7⟩; rw [s2] at hf1; simp at hf1), rfl⟩
  (conv => arg 3; whnf); repeat (first | ((with_reducible refine sat_brT ?_ ?_); rfl; conv => arg 3; whnf) | ((with_reducible refine sat_brF ?_ ?_); rfl; conv => arg 3; whnf) | ((with_reducible refine sat_eqv ?_ ?_); rfl; conv => arg 3; whnf))
  generalize hf2 : (m.ns.getD 1 0 == n.ns.getD 1 0) = g
  cases g
  · (conv => arg 3; whnf); repeat (first | ((with_reducible refine sat_brT ?_ ?_); rfl; conv => arg 3; whnf) | ((with_reducible refine sat_brF ?_ ?_); rfl; conv => arg 3; whnf) | ((with_reducible refine sat_eqv ?_ ?_); rfl; conv => arg 3; whnf))
    exact sat_ret ⟨false, rfl, by constructor; (intro h; cases h); (rintro ⟨s1, s2, s3, s4, s5, s6, s7⟩; rw [s2] at hf2; simp at hf2), rfl⟩
  (conv => arg 3; whnf); repeat (first | ((with_reducible refine sat_brT ?_ ?_); rfl; conv => arg 3; whnf) | ((with_reducible refine sat_brF ?_ ?_); rfl; conv => arg 3; whnf) | ((with_reducible refine sat_eqv ?_ ?_); rfl; conv => arg 3; whnf))
  generalize hyes : nb false (m.yes == n.yes) = g
  cases g
  · (conv => arg 3; whnf); repeat (first | ((with_reducible refine sat_brT ?_ ?_); rfl; conv => arg 3; whnf) | ((with_reducible refine sat_brF ?_ ?_); rfl; conv => arg 3; whnf) | ((with_reducible refine sat_eqv ?_ ?_); rfl; conv => arg 3; whnf))
    exact sat_ret ⟨false, rfl, by constructor; (intro h; cases h); (rintro ⟨s1, s2, s3, s4, s5, s6, s7⟩; simp [nb, s3] at hyes), rfl⟩
  (conv => arg 3; whnf); repeat (first | ((with_reducible refine sat_brT ?_ ?_); rfl; conv => arg 3; whnf) | ((with_reducible refine sat_brF ?_ ?_); rfl; conv => arg 3; whnf) | ((with_reducible refine sat_eqv ?_ ?_); rfl; conv => arg 3; whnf))
  generalize hcode : (m.code == n.code) = g
  cases g
  · (conv => arg 3; whnf); repeat (first | ((with_reducible refine sat_brT ?_ ?_); rfl; conv => arg 3; whnf) | ((with_reducible refine sat_brF ?_ ?_); rfl; conv => arg 3; whnf) | ((with_reducible refine sat_eqv ?_ ?_); rfl; conv => arg 3; whnf))
    exact sat_ret ⟨false, rfl, by constructor; (intro h; cases h); (rintro ⟨s1, s2, s3, s4, s5, s6, s7⟩; simp [s4] at hcode), rfl⟩
  (conv => arg 3; whnf); repeat (first | ((with_reducible refine sat_brT ?_ ?_); rfl; conv => arg 3; whnf) | ((with_reducible refine sat_brF ?_ ?_); rfl; conv => arg 3; whnf) | ((with_reducible refine sat_eqv ?_ ?_); rfl; conv => arg 3; whnf))
  generalize hf3 : (m.ns.getD 2 0 == n.ns.getD 2 0) = g
  cases g
  · (conv => arg 3; whnf); repeat (first | ((with_reducible refine sat_brT ?_ ?_); rfl; conv => arg 3; whnf) | ((with_reducible refine sat_brF ?_ ?_); rfl; conv => arg 3; whnf) | ((with_reducible refine sat_eqv ?_ ?_); rfl; conv => arg 3; whnf))
    exact sat_ret ⟨false, rfl, by constructor; (intro h; cases h); (rintro ⟨s1, s2, s3, s4, s5, s6, s7⟩; rw [s2] at hf3; simp at hf3), rfl⟩
  (conv => arg 3; whnf); repeat (first | ((with_reducible refine sat_brT ?_ ?_); rfl; conv => arg 3; whnf) | ((with_reducible refine sat_brF ?_ ?_); rfl; conv => arg 3; whnf) | ((with_reducible refine sat_eqv ?_ ?_); rfl; conv => arg 3; whnf))
  generalize hf4 : (m.ns.getD 3 0 == n.ns.getD 3 0) = g
  cases g
  · (conv => arg 3; whnf); repeat (first | ((with_reducible refine sat_brT ?_ ?_); rfl; conv => arg 3; whnf) | ((with_reducible refine sat_brF ?_ ?_); rfl; conv => arg 3; whnf) | ((with_reducible refine sat_eqv ?_ ?_); rfl; conv => arg 3; whnf))
    exact sat_ret ⟨false, rfl, by constructor; (intro h; cases h); (rintro ⟨s1, s2, s3, s4, s5, s6, s7⟩; rw [s2] at hf4; simp at hf4), rfl⟩
  (conv => arg 3; whnf); repeat (first | ((with_reducible refine sat_brT ?_ ?_); rfl; conv => arg 3; whnf) | ((with_reducible refine sat_brF ?_ ?_); rfl; conv => arg 3; whnf) | ((with_reducible refine sat_eqv ?_ ?_); rfl; conv => arg 3; whnf))
  generalize hf5 : (m.ns.getD 4 0 == n.ns.getD 4 0) = g
  cases g
  · (conv => arg 3; whnf); repeat (first | ((with_reducible refine sat_brT ?_ ?_); rfl; conv => arg 3; whnf) | ((with_reducible refine sat_brF ?_ ?_); rfl; conv => arg 3; whnf) | ((with_reducible refine sat_eqv ?_ ?_); rfl; conv => arg 3; whnf))
    exact sat_ret ⟨false, rfl, by constructor; (intro h; cases h); (rintro ⟨s1, s2, s3, s4, s5, s6, s7⟩; rw [s2] at hf5; simp at hf5), rfl⟩
  (conv => arg 3; whnf); repeat (first | ((with_reducible refine sat_brT ?_ ?_); rfl; conv => arg 3; whnf) | ((with_reducible refine sat_brF ?_ ?_); rfl; conv => arg 3; whnf) | ((with_reducible refine sat_eqv ?_ ?_); rfl; conv => arg 3; whnf))
  generalize hf6 : (m.ns.getD 5 0 == n.ns.getD 5 0) = g
  cases g
  · (conv => arg 3; whnf); repeat (first | ((with_reducible refine sat_brT ?_ ?_); rfl; conv => arg 3; whnf) | ((with_reducible refine sat_brF ?_ ?_); rfl; conv => arg 3; whnf) | ((with_reducible refine sat_eqv ?_ ?_); rfl; conv => arg 3; whnf))
    exact sat_ret ⟨false, rfl, by constructor; (intro h; cases h); (rintro ⟨s1, s2, s3, s4, s5, s6, s7⟩; rw [s2] at hf6; simp at hf6), rfl⟩
  (conv => arg 3; whnf); repeat (first | ((with_reducible refine sat_brT ?_ ?_); rfl; conv => arg 3; whnf) | ((with_reducible refine sat_brF ?_ ?_); rfl; conv => arg 3; whnf) | ((with_reducible refine sat_eqv ?_ ?_); rfl; conv => arg 3; whnf))
  generalize hf7 : (m.ns.getD 6 0 == n.ns.getD 6 0) = g
  cases g
  · (conv => arg 3; whnf); repeat (first | ((with_reducible refine sat_brT ?_ ?_); rfl; conv => arg 3; whnf) | ((with_reducible refine sat_brF ?_ ?_); rfl; conv => arg 3; whnf) | ((with_reducible refine sat_eqv ?_ ?_); rfl; conv => arg 3; whnf))
    exact sat_ret ⟨false, rfl, by constructor; (intro h; cases h); (rintro ⟨s1, s2, s3, s4, s5, s6, s7⟩; rw [s2] at hf7; simp at hf7), rfl⟩
  (conv => arg 3; whnf); repeat (first | ((with_reducible refine sat_brT ?_ ?_); rfl; conv => arg 3; whnf) | ((with_reducible refine sat_brF ?_ ?_); rfl; conv => arg 3; whnf) | ((with_reducible refine sat_eqv ?_ ?_); rfl; conv => arg 3; whnf))
  generalize hf8 : (m.ns.getD 7 0 == n.ns.getD 7 0) = g
  cases g
  · (conv => arg 3; whnf); repeat (first | ((with_reducible refine sat_brT ?_ ?_); rfl; conv => arg 3; whnf) | ((with_reducible refine sat_brF ?_ ?_); rfl; conv => arg 3; whnf) | ((with_reducible refine sat_eqv ?_ ?_); rfl; conv => arg 3; whnf))
    exact sat_ret ⟨false, rfl, by constructor; (intro h; cases h); (rintro ⟨s1, s2, s3, s4, s5, s6, s7⟩; rw [s2] at hf8; simp at hf8), rfl⟩
  (conv => arg 3; whnf); repeat (first | ((with_reducible refine sat_brT ?_ ?_); rfl; conv => arg 3; whnf) | ((with_reducible refine sat_brF ?_ ?_); rfl; conv => arg 3; whnf) | ((with_reducible refine sat_eqv ?_ ?_); rfl; conv => arg 3; whnf))
  refine sat_ret ⟨_, rfl, ?_, rfl⟩
  constructor
  · intro hf9
    refine ⟨by simpa using hf0, ?_, by simpa [nb] using hyes, by simpa using hcode, h5, hq.1 rfl, hq2.1 rfl⟩
    obtain ⟨a0, a1, a2, a3, a4, a5, a6, a7, a8, e1⟩ := nine hm.n
    obtain ⟨b0, b1, b2, b3, b4, b5, b6, b7, b8, e2⟩ := nine hn.n
    rw [e1, e2] at hf1 hf2 hf3 hf4 hf5 hf6 hf7 hf8 hf9 ⊢
    simp at hf1 hf2 hf3 hf4 hf5 hf6 hf7 hf8 hf9
    simp [hf1, hf2, hf3, hf4, hf5, hf6, hf7, hf8, hf9]
  · rintro ⟨s1, s2, s3, s4, s5, s6, s7⟩; rw [s2]; simp
end Stk
