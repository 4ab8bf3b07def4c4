/- The framework: drawn regions, any order. -/
import Derived.Test.YthkbahbbdacgeaaDoorFwD
namespace Stk
open Go
variable {X : Cx} {Q : Ex → Fr → Hp → Prop}

structure RealS (ds : List IOp) (listed : Array Bool) (n : Nat) (M P : List Nat) (a b : Act) (N : Nat) : Prop where
  size : listed.size = n
  effs : ∀ (j : Nat) d, ds[j]? = some d → d.eff = true → j ∈ M → listed.getD j true = true
  pend : ∀ j ∈ M, listed.getD j true = false → j ∈ P
  maxi : ∀ (j : Nat) d, ds[j]? = some d → d.eff = false → (∀ x ∈ d.pre, x ∈ M) → j ∈ M
  sub : ∀ j, j < n → listed.getD j true = true → j ∈ M
  down : ∀ j, j < n → listed.getD j true = true → ∀ x ∈ preOf ds j, listed.getD x true = true
  asz : a.tmps.size = N
  adef : a.defers = []
  agree : ∀ t, (∀ j ∈ M, listed.getD j true = false → ∀ d, ds[j]? = some d → d.dst ≠ some t) → a.tmps.getD t undef = b.tmps.getD t undef

theorem ready_mem {ops : Array Oper} {listed : Array Bool} {i : Nat} : i ∈ Region.ready .any ops listed ↔ i < ops.size ∧ listed.getD i true = false ∧ ∃ o, ops[i]? = some o ∧ ∀ x ∈ o.after.toList, bindE x = true → listed.getD x.on false = true := by
  unfold Region.ready
  rw [List.mem_filter, List.mem_range]
  simp only [Bool.and_eq_true, Bool.not_eq_true']
  constructor
  · rintro ⟨h1, h2, h3⟩
    refine ⟨h1, h2, ops[i], by simp [h1], fun x hx hb => ?_⟩
    simp only [Array.getElem?_eq_getElem h1, Option.map_some, Option.getD_some, ← Array.all_toList, List.all_eq_true, Bool.or_eq_true, Bool.not_eq_true'] at h3
    rcases h3 x hx with h | h
    · unfold bindE at hb; rw [h] at hb; cases hb
    · exact h
  · rintro ⟨h1, h2, o, ho, h3⟩
    refine ⟨h1, h2, ?_⟩
    rw [ho]
    simp only [Option.map_some, Option.getD_some, ← Array.all_toList, List.all_eq_true, Bool.or_eq_true, Bool.not_eq_true']
    intro x hx
    cases hb : Region.binds .any x with
    | false => exact .inl rfl
    | true => exact .inr (h3 x hx hb)

theorem all_listed {ops : Array Oper} {ds : List IOp} (hD : DR X ops ds) {listed : Array Bool} (hs : listed.size = ops.size) (hr : Region.ready .any ops listed = []) : ∀ i, listed.getD i true = true := by
  intro i
  induction i using Nat.strongRecOn with
  | _ i ih =>
    rcases Nat.lt_or_ge i ops.size with hi | hi
    · cases hl : listed.getD i true with
      | true => rfl
      | false =>
        exfalso
        have hd : i < ds.length := by rw [hD.len]; exact hi
        have hD1 := hD.one i ops[i] ds[i] (by simp [hi]) (by simp [hd])
        have : i ∈ Region.ready .any ops listed := ready_mem.2 ⟨hi, hl, ops[i], by simp [hi], fun x hx hbx => by
          have hlt := hD1.back x hx hbx
          have := ih x.on hlt
          simp only [Array.getD_eq_getD_getElem?] at this ⊢
          have hx2 : x.on < listed.size := by omega
          simpa [Array.getElem?_eq_getElem hx2] using this⟩
        rw [hr] at this; cases this
    · simp [Array.getD_eq_getD_getElem?, Array.getElem?_eq_none (by omega : listed.size ≤ i)]

theorem drawn_main {ops : Array Oper} {ds : List IOp} (hD : DR X ops ds) {Qe : Exit → Act → World → Prop} {k : Fr → Hp → T} {e0 : Env} {H0 : Hp} {w0 : World}
    (hn : ∀ fr' a' e' H' w', FrR X.N e' fr' a' → Step X.G e0 H0 w0 e' H' w' → sat X Q (k fr' H') → Qe .normal a' w') :
    ∀ (fuel : Nat) {listed : Array Bool} {M P : List Nat} {fr : Fr} {H : Hp} {e : Env} {w : World} {a b : Act} {n : Nat}, unl listed ops.size = fuel → Step X.G e0 H0 w0 e H w →
      RealS ds listed ops.size M P a b X.N → Sim X ops ds (fun j => listed.getD j true = false) M P fr H e w b → sat X Q (pickT n ds M P fr H k) → wpAny X.P .any ops Qe fuel listed a w := by
  intro fuel
  induction fuel with
  | zero =>
    intro listed M P fr H e w a b n hu hst hR hS h
    have hall : ∀ i, listed.getD i true = true := by
      intro i
      rcases Nat.lt_or_ge i ops.size with hi | hi
      · cases hl : listed.getD i true with
        | true => rfl
        | false =>
          have := unl_set hR.size hi hl
          omega
      · simp [Array.getD_eq_getD_getElem?, Array.getElem?_eq_none (by rw [hR.size]; exact hi : listed.size ≤ i)]
    refine ⟨?_, ?_⟩
    · cases hrd : Region.ready .any ops listed with
      | nil => rfl
      | cons i r =>
        have : i ∈ Region.ready .any ops listed := by rw [hrd]; exact List.mem_cons_self ..
        have := (ready_mem.1 this).2.1
        rw [hall i] at this; cases this
    · cases n with
      | zero => exact h.elim
      | succ n =>
        simp only [pickT] at h
        have hM : allN 0 ds M = true := allN_iff.2 fun j hj => by rw [Nat.zero_add]; exact hR.sub j (by rw [← hD.len]; exact hj) (hall j)
        rw [hM] at h
        refine hn fr a e H w ⟨hR.asz, hR.adef, fun t => ?_⟩ hst h
        rw [hR.agree t (fun j _ hl => by rw [hall j] at hl; cases hl)]
        exact hS.frr.slot t
  | succ fuel ih =>
    intro listed M P fr H e w a b n hu hst hR hS h
    refine ⟨fun hrd => ?_, fun i hi => ?_⟩
    · exfalso
      have hall := all_listed hD hR.size hrd
      have : unl listed ops.size = 0 := by
        unfold unl
        rw [List.countP_eq_zero]
        intro j _
        simp [hall j]
      omega
    · obtain ⟨hi1, hi2, o, ho, hi3⟩ := ready_mem.1 hi
      have hid : i < ds.length := by rw [hD.len]; exact hi1
      have hd : ds[i]? = some ds[i] := by simp [hid]
      generalize ds[i] = d at hd
      have h1 := hD.one i o d ho hd
      obtain ⟨e1, e2, e3⟩ := h1.dsts
      have hsz : i < listed.size := by rw [hR.size]; exact hi1
      have hL' := listed_set hsz
      have hu' : unl (listed.setIfInBounds i true) ops.size = fuel := by have := unl_set hR.size hi1 hi2; omega
      -- what it waits for has been done
      have hpre : ∀ x ∈ d.pre, listed.getD x true = true := by
        intro x hx
        obtain ⟨hlt, ed, hed, hb, hx2⟩ := h1.pre x hx
        have hon := hi3 ed hed hb
        have hlt2 := h1.back ed hed hb
        have hon' : listed.getD ed.on true = true := by
          simp only [Array.getD_eq_getD_getElem?] at hon ⊢
          have : ed.on < listed.size := by omega
          simpa [Array.getElem?_eq_getElem this] using hon
        rcases hx2 with rfl | hx2
        · exact hon'
        · exact hR.down ed.on (by omega) hon' x hx2
      have hpreM : ∀ x ∈ d.pre, x ∈ M := fun x hx => hR.sub x (by have := (h1.pre x hx).1; omega) (hpre x hx)
      have hsame : Same ops o b a := by
        intro t ht
        refine (hR.agree t fun j hj hl dj hdj hdd => ?_).symm
        rcases h1.look t ht j dj hdj hdd with h2 | ⟨h2, _⟩
        · rw [hpre j h2] at hl; cases hl
        · rw [hR.effs j dj hdj h2 hj] at hl; cases hl
      have hbsz : b.tmps.size = a.tmps.size := by rw [hS.frr.size, hR.asz]
      have hexec := same_exec e3 hsame
      have hwant := same_wanted hbsz hsame
      have hb1 : ∀ x, o.dst = some x → x < a.tmps.size := fun x hx => by rw [hR.asz]; exact e2 x hx
      have hb2 : ∀ x, o.dst = some x → x < b.tmps.size := fun x hx => by rw [hS.frr.size]; exact e2 x hx
      have hdown : ∀ j, j < ops.size → (listed.setIfInBounds i true).getD j true = true → ∀ x ∈ preOf ds j, (listed.setIfInBounds i true).getD x true = true := by
        intro j hj hl x hx
        rw [hL'] at hl ⊢
        by_cases hji : j = i
        · subst hji
          simp only [preOf, hd] at hx
          rw [hpre x hx]; simp
        · rw [if_neg hji] at hl
          rw [hR.down j hj hl x hx]; simp
      unfold wpOp
      simp only [ho]
      cases he : d.eff with
      | false =>
        have hiM := hR.maxi i d hd he hpreM
        obtain ⟨c, hyc, hcv⟩ := hS.yc i (hR.pend i hiM hi2) hi2 o ho
        have hyc := hyc.same e3 hbsz hsame
        have hR' : RealS ds (listed.setIfInBounds i true) ops.size M P (a.put o.dst c) b X.N := by
          refine ⟨by simp [hR.size], fun j dj hj hje hjM => ?_, fun j hj hl => ?_, hR.maxi, fun j hj hl => ?_, hdown, by rw [put_size]; exact hR.asz, by rw [put_defers]; exact hR.adef, fun t ht => ?_⟩
          · rw [hL']; split
            · rfl
            · exact hR.effs j dj hj hje hjM
          · rw [hL'] at hl
            split at hl
            · cases hl
            · exact hR.pend j hj hl
          · rw [hL'] at hl
            by_cases hji : j = i
            · subst hji; exact hiM
            · rw [if_neg hji] at hl; exact hR.sub j hj hl
          · rw [put_getD a _ _ _ hb1]
            split
            · rename_i hot; exact (hcv t hot).symm
            · rename_i hot
              refine hR.agree t fun j hj hl dj hdj => ?_
              by_cases hji : j = i
              · subst hji
                rw [hd] at hdj; obtain rfl := Option.some.inj hdj
                rw [← e1]; exact hot
              · exact ht j hj (by rw [hL', if_neg hji]; exact hl) dj hdj
        have hS' : Sim X ops ds (fun j => (listed.setIfInBounds i true).getD j true = false) M P fr H e w b :=
          ⟨hS.frr, hS.clo, hS.pin, fun j hj hl => hS.yc j hj (by
            simp only [hL'] at hl
            split at hl
            · cases hl
            · exact hl)⟩
        have fin := ih hu' hst hR' hS' h
        rcases hyc with ⟨hw, hrun⟩ | ⟨hw, hc⟩
        · rw [if_pos hw]
          left
          unfold Oper.wp
          rcases hrun with hrun | ⟨hrun, rfl⟩
          · rw [hrun]; exact fin
          · rw [hrun]; exact fin
        · rw [if_neg (by rw [hw]; simp)]
          subst hc; exact fin
      | true =>
        have hiM : i ∉ M := fun hm => by rw [hR.effs i d hd he hm] at hi2; cases hi2
        cases n with
        | zero => exact h.elim
        | succ n =>
          simp only [pickT] at h
          split at h
          · rename_i hall
            exact absurd (by have := allN_iff.1 hall i hid; simpa using this) hiM
          · have hc := (cands_sound h).2 i d hd he (by simpa using hiM) hpreM
            rw [Nat.zero_add] at hc
            -- behind it
            have behind {c : Value} {fr1 : Fr} {e' : Env} {H1 : Hp} {w' : World} (hf1 : FrR X.N e' fr1 (b.put o.dst c)) (hs1 : Step X.G e H w e' H1 w')
                (hk : sat X Q (againsT (dropN d.pre P) 0 ds fr1 H1 (readsT 0 ds (i :: M) (dropN d.pre P) fr1 H1 fun M' P' fr'' => pickT n ds M' P' fr'' H1 k))) :
                wpAny X.P .any ops Qe fuel (listed.setIfInBounds i true) (a.put o.dst c) w' := by
              have hP' : ∀ j ∈ dropN d.pre P, ∃ dj, ds[j]? = some dj ∧ dj.eff = false := fun j hj => (hS.pin j (dropN_iff.1 hj).1).2
              obtain ⟨b1, g1, g2, g3, g4⟩ := agains_sound (S := fun j => (listed.setIfInBounds i true).getD j true = false) hD hs1.rel hP' (i := 0) rfl hf1 (fun j _ _ hj => by omega) hk
              have hsim1 : Sim X ops ds (fun j => (listed.setIfInBounds i true).getD j true = false) (i :: M) (dropN d.pre P) fr1 H1 e' w' b1 := by
                refine ⟨g1, fun j hj x hx => ?_, fun j hj => ?_, g2⟩
                · rcases List.mem_cons.1 hj with rfl | hj
                  · simp only [preOf, hd] at hx; exact List.mem_cons_of_mem _ (hpreM x hx)
                  · exact List.mem_cons_of_mem _ (hS.clo j hj x hx)
                · have := hS.pin j (dropN_iff.1 hj).1
                  exact ⟨List.mem_cons_of_mem _ this.1, this.2⟩
              obtain ⟨M', P', fr2, b2, k1, k2, k3, k0, k4, k5, k6⟩ := reads_sound hD hs1.rel (i := 0) rfl hsim1 g3
              refine ih hu' (hst.trans hs1) ⟨by simp [hR.size], fun j dj hj hje hjM => ?_, fun j hj hl => ?_, fun j dj hj hje hp => k6 j dj (Nat.zero_le _) hj hje hp, fun j hj hl => ?_, hdown, by rw [put_size]; exact hR.asz, by rw [put_defers]; exact hR.adef, fun t ht => ?_⟩ k1 k2
              · rw [hL']
                split
                · rfl
                · rename_i hji
                  rcases k4 j hjM with h2 | ⟨_, _, d2, h3, h4⟩
                  · rcases List.mem_cons.1 h2 with rfl | h2
                    · exact absurd rfl hji
                    · exact hR.effs j dj hj hje h2
                  · rw [hj] at h3; obtain rfl := Option.some.inj h3
                    rw [hje] at h4; cases h4
              · rw [hL'] at hl
                split at hl
                · cases hl
                · rename_i hji
                  rcases k4 j hj with h2 | ⟨_, h2, _⟩
                  · rcases List.mem_cons.1 h2 with rfl | h2
                    · exact absurd rfl hji
                    · refine k0 j (dropN_iff.2 ⟨hR.pend j h2 hl, fun hp => ?_⟩)
                      rw [hpre j hp] at hl; cases hl
                  · exact h2
              · rw [hL'] at hl
                by_cases hji : j = i
                · subst hji; exact k3 j (List.mem_cons_self ..)
                · rw [if_neg hji] at hl; exact k3 j (List.mem_cons_of_mem _ (hR.sub j hj hl))
              · have unl' : ∀ j, j ∉ M → j ≠ i → j < ops.size → (listed.setIfInBounds i true).getD j true = false := fun j hjM hji hj => by
                  rw [hL', if_neg hji]
                  cases hl : listed.getD j true with
                  | false => rfl
                  | true => exact absurd (hR.sub j hj hl) hjM
                rw [k5 t (fun j hj hjM dj hdj => ht j hj (unl' j (fun hm => hjM (List.mem_cons_of_mem _ hm)) (fun e => hjM (e ▸ List.mem_cons_self ..)) (by rw [← hD.len]; exact lt_of_get hdj)) dj hdj),
                  g4 t (fun j hj hS2 dj hdj => ht j (k3 j (List.mem_cons_of_mem _ (hS.pin j (dropN_iff.1 hj).1).1)) hS2 dj hdj),
                  put_getD a _ _ _ hb1, put_getD b _ _ _ hb2]
                split
                · rfl
                · rename_i hot
                  refine hR.agree t fun j hj hl dj hdj => ?_
                  by_cases hji : j = i
                  · subst hji; exact absurd hj hiM
                  · exact ht j (k3 j (List.mem_cons_of_mem _ hj)) (by rw [hL', if_neg hji]; exact hl) dj hdj
            rcases iop_upon h1.iop hst.rel hS.frr hc with ⟨hw, hup⟩ | ⟨hw, fr1, hf1, hk⟩
            · rw [if_pos (by rw [← hwant]; exact hw)]
              left
              rw [hexec] at hup
              exact hup.wp fun c w' ⟨fr1, e', H1, hf1, hs1, hk⟩ => behind hf1 hs1 hk
            · rw [if_neg (by rw [← hwant, hw]; simp)]
              exact behind hf1 (Step.refl hst.rel) hk

theorem drawn_sound {id : Nat} {ops : Array Oper} {ds : List IOp} (hc : chkD X.P X.G X.N ops ds = true) {fr : Fr} {a : Act} {e : Env} {H : Hp} {w : World} {k : Fr → Hp → T} (hr : Rel X.G e H w) (hf : FrR X.N e fr a) (h : sat X Q (dregT ds fr H k))
    {Qe : Exit → Act → World → Prop} (hn : ∀ fr' a' e' H' w', FrR X.N e' fr' a' → Step X.G e H w e' H' w' → sat X Q (k fr' H') → Qe .normal a' w') : (Code.region id ops true).wp X.P Qe a w := by
  have hD := chkD_spec hc
  refine wp_region_any hD.mixed ?_
  have hd := Step.drew hr
  have hrd : Rel X.G e H { w with drawn := w.drawn + 1 } := hd.rel
  unfold dregT at h
  obtain ⟨M, P, fr', b, g1, g2, g3, g0, g4, g5, g6⟩ := reads_sound (S := fun _ => True) hD hrd (i := 0) (M := []) (P := []) rfl ⟨hf, by simp, by simp, by simp⟩ h
  have hl0 : ∀ j, j < ops.size → (Array.replicate ops.size false).getD j true = false := fun j hj => by simp [Array.getD_eq_getD_getElem?, hj]
  have hno : ∀ j, j < ops.size → ¬ (Array.replicate ops.size false).getD j true = true := fun j hj h => by rw [hl0 j hj] at h; cases h
  have hfu : unl (Array.replicate ops.size false) ops.size = ops.size := by
    unfold unl
    have : ∀ j ∈ List.range ops.size, (fun i => !((Array.replicate ops.size false).getD i true)) j = true := fun j hj => by
      rw [List.mem_range] at hj
      simp only [hl0 j hj]; rfl
    rw [List.countP_eq_length.2 this, List.length_range]
  refine drawn_main hD (e0 := e) (H0 := H) (w0 := w) hn ops.size (b := b) hfu hd ⟨by simp, fun j d hj he hM => ?_, fun j hj _ => ?_, fun j d hj he hp => g6 j d (Nat.zero_le _) hj he hp, fun j hj h => absurd h (hno j hj), fun j hj h => absurd h (hno j hj), hf.size, hf.defers, fun t ht => ?_⟩ ⟨g1.frr, g1.clo, g1.pin, fun j hj _ => g1.yc j hj trivial⟩ g2
  · rcases g4 j hM with h1 | ⟨_, _, d2, h3, h4⟩
    · cases h1
    · rw [hj] at h3; obtain rfl := Option.some.inj h3
      rw [he] at h4; cases h4
  · rcases g4 j hj with h1 | ⟨_, h2, _⟩
    · cases h1
    · exact h2
  · refine (g5 t fun j hj _ d hd => ht j hj (hl0 j ?_) d hd).symm
    rw [← hD.len]; exact lt_of_get hd
end Stk
