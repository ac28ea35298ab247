/-
  Texts of one proof, one behind the other.
-/
import Derived.Test.YtpgcdbhjmlcfaaaGreatDoorP3
import Derived.Below
import Derived.Recover
import Derived.Orders
set_option linter.all false
section
namespace Go.Am
open Go
theorem turn_adopt (S : St) (kb j k sz : Nat) : Turn S (S.adopt kb j k sz) := by
 unfold St.adopt
 split
 · rename_i key vb cs key2 v cont hgb hg
   split
   · rename_i hj
     split
     · exact Turn.refl S
     · rename_i hne
       refine ⟨rfl, rfl, fun φ G a w hr => ?_⟩
       obtain ⟨hm, hk, L, hL, hver, hcr⟩ := hr.mem.get hg
       simp only at hk hver
       subst hk
       obtain ⟨φ1, hm1, hk1, hφ1, hφo⟩ := hr.mem.upd (e' := ⟨key2, v + 1, .vec sz []⟩) hm hL rfl (L' := ⟨v + 1, 0, sz, 0, 0, []⟩) (by simp only; omega) (fun hh => by simp only at hh; omega) rfl
        (w' := w) (fun _ _ _ => rfl) (Nat.le_refl _) (fun _ ho => absurd ho.1 (by simp)) rfl rfl rfl (fun φ' hφ' hle' => ⟨rfl, by simp, by simp, fun hc => by simp at hc⟩)
       have hgb1 : Mem.get (Mem.set S.mem ⟨key2, v + 1, .vec sz []⟩) kb = some ⟨key, vb, .box cs⟩ := by
        rw [Mem.get_set_ne (by simpa using fun h => hne h.symm)]; exact hgb
       obtain ⟨hmb, hkb, Lb, hLb, hverb, hcrb⟩ := hm1.get hgb1
       simp only at hkb hverb
       subst hkb
       obtain ⟨φ2, hm2, hk2, hφ2, hφo2⟩ := hm1.upd (e' := ⟨key, vb, .box (cs.set j (.vec key2 (v + 1) 0 0))⟩) hmb hLb rfl (L' := Lb) (Nat.le_refl _) (fun _ => rfl) hverb
        (w' := w) (fun _ _ _ => rfl) (Nat.le_refl _) (fun _ ho => .inl ho) rfl rfl rfl (fun φ' hφ' hle' => by
         obtain ⟨g0, arr, elem, g1, g2, g3, g4⟩ := hcrb
         have hFF : ∀ b, Fo G φ' (Mem.set (Mem.set S.mem ⟨key2, v + 1, .vec sz []⟩) ⟨key, vb, .box (cs.set j (.vec key2 (v + 1) 0 0))⟩) b → Fo G φ1 (Mem.set S.mem ⟨key2, v + 1, .vec sz []⟩) b := by
          rintro b (h | ⟨x, hx, Lx, hLx, hox⟩)
          · exact .inl h
          · right
            rcases (Mem.mem_set hm1.nodup).1 hx with ⟨rfl, _⟩ | ⟨hxm, hxk⟩
            · simp only [hφ', if_true] at hLx; cases hLx
              exact ⟨_, hmb, Lb, hLb, hox⟩
            · simp only [hφ', hxk, if_false] at hLx
              exact ⟨x, hxm, Lx, hLx, hox⟩
         refine ⟨by simpa using g0, arr, elem, g1, by simp [g2], g3, fun i c u hc hu => ?_⟩
         rw [List.getElem?_set] at hc
         split at hc
         · rename_i hij
           subst hij
           split at hc
           · cases hc
             have := g4 j _ u hj hu
             cases this
             refine .vec key2 (v + 1) 0 0 _ ⟨v + 1, 0, sz, 0, 0, []⟩ ?_ (Nat.le_refl _) (fun _ => ⟨_, _, rfl, by simp, fun h => by omega⟩) rfl
             rw [hφ']
             simp only
             rw [if_neg (fun h => hne h.symm)]
             exact hφ1
           · cases hc
         · exact (g4 i c u hc hu).mono hle' (fun _ _ _ => rfl) (Nat.le_refl _) (fun b _ => hFF b))
       have hkk := hk1.trans hk2
       exact ⟨φ2, hr.turn hm2 hkk, hkk⟩
   · exact Turn.refl S
 · exact Turn.refl S
theorem mapB_keys (τ : AV → AV) : ∀ m : Mem, (mapB τ m).map (·.key) = m.map (·.key)
 | [] => rfl
 | e :: r => by simp [mapB, mapB_keys τ r]
theorem mapB_mem {τ : AV → AV} : ∀ {m : Mem} {x : Ent}, x ∈ mapB τ m ↔ ∃ e ∈ m, x = ⟨e.key, e.ver, mapC τ e.cont⟩
 | [], x => by simp [mapB]
 | e :: r, x => by simp [mapB, mapB_mem (m := r)]
theorem turn_rekey (S : St) (k k2 : Nat) : Turn S (S.rekey k k2) := by
 unfold St.rekey
 split
 · rename_i key v sz rows key2 v2 cont hg hg2
   split
   · exact Turn.refl S
   · rename_i hne
     refine ⟨rfl, rfl, fun φ G a w hr => ?_⟩
     obtain ⟨hm, hk, L, hL, hver, hcr⟩ := hr.mem.get hg
     obtain ⟨hm2, hk2, L2, hL2, hver2, _⟩ := hr.mem.get hg2
     simp only at hk hver hk2 hver2
     subst hk; subst hk2
     have hne2 : ¬ key2 = key := fun h => hne h.symm
     obtain ⟨τ, hτ⟩ : ∃ τ, τ = rkAV key v key2 (v2 + 1) := ⟨_, rfl⟩
     rw [← hτ]
     obtain ⟨m1, hm1⟩ : ∃ m1, m1 = Mem.set (mapB τ S.mem) ⟨key, v + 1, .dead⟩ := ⟨_, rfl⟩
     have hn0 : ((mapB τ S.mem).map (·.key)).Nodup := by rw [mapB_keys]; exact hr.mem.nodup
     have hn1 : (m1.map (·.key)).Nodup := by rw [hm1, Mem.set_keys]; exact hn0
     obtain ⟨m', hm'⟩ : ∃ m', m' = Mem.set m1 ⟨key2, v2 + 1, .vec sz rows⟩ := ⟨_, rfl⟩
     rw [← hm1, ← hm']
     have hkeys : m'.map (·.key) = S.mem.map (·.key) := by rw [hm', Mem.set_keys, hm1, Mem.set_keys, mapB_keys]
     have hmem : ∀ y, y ∈ m' → y = ⟨key2, v2 + 1, .vec sz rows⟩ ∨ y = ⟨key, v + 1, .dead⟩ ∨ (∃ z ∈ S.mem, y = ⟨z.key, z.ver, mapC τ z.cont⟩ ∧ z.key ≠ key ∧ z.key ≠ key2) := by
      intro y hy
      rw [hm'] at hy
      rcases (Mem.mem_set hn1).1 hy with ⟨h, _⟩ | ⟨h, h2⟩
      · exact .inl h
      · rw [hm1] at h
        rcases (Mem.mem_set hn0).1 h with ⟨h, _⟩ | ⟨h, h3⟩
        · exact .inr (.inl h)
        · obtain ⟨z, hz, rfl⟩ := mapB_mem.1 h
          exact .inr (.inr ⟨z, hz, rfl, h3, h2⟩)
     obtain ⟨φ', hφ'⟩ : ∃ φ' : Phi, φ' = fun j => if j = key then some { L with ver := v + 1 } else if j = key2 then some { L with ver := v2 + 1 } else φ j := ⟨_, rfl⟩
     have f1 : φ' key = some { L with ver := v + 1 } := by simp [hφ']
     have f2 : φ' key2 = some { L with ver := v2 + 1 } := by simp [hφ', hne2]
     have f3 : ∀ j, j ≠ key → j ≠ key2 → φ' j = φ j := fun j h1 h2 => by simp [hφ', h1, h2]
     have hle : φ.le φ' := by
      intro j L0 h0
      by_cases h1 : j = key
      · subst h1; rw [hL] at h0; cases h0
        exact ⟨_, f1, by simp only; omega, fun hh => by simp only at hh; omega⟩
      · by_cases h2 : j = key2
        · subst h2; rw [hL2] at h0; cases h0
          exact ⟨_, f2, by simp only; omega, fun hh => by simp only at hh; omega⟩
        · exact ⟨L0, by rw [f3 j h1 h2]; exact h0, Nat.le_refl _, fun _ => rfl⟩
     have hown : ∀ b, Own φ' m' b → Own φ S.mem b := by
      rintro b ⟨y, hy, Ly, hLy, hoy⟩
      rcases hmem y hy with rfl | rfl | ⟨y0, h1, rfl, h2, h3⟩
      · simp only at hLy; rw [f2] at hLy; cases hLy
        exact ⟨_, hm, L, hL, hoy⟩
      · exact hoy.elim
      · simp only at hLy; rw [f3 _ h2 h3] at hLy
        exact ⟨y0, h1, Ly, hLy, mapC_owns.1 hoy⟩
     have hF : ∀ b, Fo G φ' m' b → Fo G φ S.mem b := fun b => Or.imp id (hown b)
     have hav : ∀ x u, AVRel φ w (Fo G φ S.mem) x u → AVRel φ' w (Fo G φ' m') (τ x) u := by
      intro y u h0
      have h0' := h0.mono (φ' := φ') (F' := Fo G φ' m') hle (fun _ _ _ => rfl) (Nat.le_refl _) (fun b _ => hF b)
      rw [hτ]
      unfold rkAV
      split
      · rename_i k0 v0 o l
        split
        · rename_i hh
          obtain ⟨rfl, rfl⟩ := hh
          cases h0 with
          | vec _ _ _ _ _ L' hL' _ h h1 =>
           rw [hL] at hL'; cases hL'
           exact .vec key2 (v2 + 1) o l _ _ f2 (Nat.le_refl _) (fun _ => h hver.symm) h1
        · exact h0'
      · exact h0'
     refine ⟨φ', ⟨hr.size, hr.defers, ?_, ⟨?_, ?_, ?_, ?_, ?_, ?_⟩, hr.glob.mono (fun _ _ _ => rfl) (Nat.le_refl _) (fun b _ => hF b)⟩, own_same hown hle⟩
     · intro t x hx
       obtain ⟨y, hy, rfl⟩ := lk_mapEnv _ S.env t true x hx
       exact hav _ _ (hr.env t y hy)
     · show (m'.map (·.key)).Nodup
       rw [hkeys]; exact hr.mem.nodup
     · intro j L0 h0
       show j ∈ m'.map (·.key)
       rw [hkeys]
       by_cases h1 : j = key
       · subst h1; exact List.mem_map_of_mem hm
       · by_cases h2 : j = key2
         · subst h2; exact List.mem_map_of_mem hm2
         · rw [f3 j h1 h2] at h0; exact hr.mem.dom j L0 h0
     · intro y hy
       rcases hmem y hy with rfl | rfl | ⟨y0, h1, rfl, h2, h3⟩
       · refine ⟨_, f2, rfl, ?_⟩
         have := hcr.mono (φ' := φ') (F' := Fo G φ' m') hle (fun _ _ _ => rfl) (Nat.le_refl _) (fun b _ => hF b) (fun _ _ => rfl)
         exact this
       · exact ⟨_, f1, rfl, trivial⟩
       · obtain ⟨Ly, hLy, hvy, hcy⟩ := hr.mem.ents y0 h1
         refine ⟨Ly, by simp only; rw [f3 _ h2 h3]; exact hLy, hvy, ?_⟩
         cases hyc : y0.cont with
         | dead => trivial
         | box cs =>
          rw [hyc] at hcy
          obtain ⟨g0, arr, elem, g1, g2, g3, g4⟩ := hcy
          refine ⟨by simpa using g0, arr, elem, g1, by simp [g2], g3, fun i c u hci hu => ?_⟩
          rw [List.getElem?_map] at hci
          obtain ⟨x, hx, rfl⟩ := Option.map_eq_some_iff.1 hci
          exact hav x u (g4 i x u hx hu)
         | vec sz1 rows1 =>
          rw [hyc] at hcy
          exact hcy.mono hle (fun _ _ _ => rfl) (Nat.le_refl _) (fun b _ => hF b) (fun _ _ => rfl)
         | vv rows1 y1 =>
          rw [hyc] at hcy
          exact VRel.mono τ hcy (fun _ _ _ _ u hu => hu.mono (fun _ _ _ => rfl) (Nat.le_refl _) (fun b _ => hF b)) (fun x _ v hx => hav x v hx) (fun _ _ => rfl)
     · rintro y hy z hz Ly Lz hLy hLz ⟨b, hoy, hoz⟩
       rcases hmem y hy with rfl | rfl | ⟨y0, h1, rfl, h2, h3⟩
       · rcases hmem z hz with rfl | rfl | ⟨z0, g1, rfl, g2, g3⟩
         · rfl
         · exact hoz.elim
         · simp only at hLy; rw [f2] at hLy; cases hLy
           simp only at hLz; rw [f3 _ g2 g3] at hLz
           exact absurd (hr.mem.apart _ hm z0 g1 L Lz hL hLz ⟨b, hoy, mapC_owns.1 hoz⟩).symm g2
       · exact hoy.elim
       · rcases hmem z hz with rfl | rfl | ⟨z0, g1, rfl, g2, g3⟩
         · simp only at hLz; rw [f2] at hLz; cases hLz
           simp only at hLy; rw [f3 _ h2 h3] at hLy
           exact absurd (hr.mem.apart y0 h1 _ hm Ly L hLy hL ⟨b, mapC_owns.1 hoy, hoz⟩) h2
         · exact hoz.elim
         · simp only at hLy hLz; rw [f3 _ h2 h3] at hLy
           rw [f3 _ g2 g3] at hLz
           exact hr.mem.apart y0 h1 z0 g1 Ly Lz hLy hLz ⟨b, mapC_owns.1 hoy, mapC_owns.1 hoz⟩
     · intro b hb
       exact hr.mem.notG b (hown b hb)
     · exact hr.mem.bound
 · exact Turn.refl S
theorem subs_last {α : Type} {l : List α} {n : Nat} (h : l.length = n + 1) : ∃ (r : List α) (o : α), l = r ++ [o] ∧ r.length = n := by
 refine ⟨l.dropLast, l.getLast (by intro hh; simp [hh] at h), (List.dropLast_concat_getLast _).symm, by simp [h]⟩
theorem turn_opn (S : St) (k k2 : Nat) : Turn S (S.opn k k2) := by
 unfold St.opn
 split
 · rename_i key v rows key2 v2 cont hg hg2
   split
   · rename_i xs hxs
     split
     · exact Turn.refl S
     · rename_i hne
       refine ⟨rfl, rfl, fun φ G a w hr => ?_⟩
       obtain ⟨hm, hk, L, hL, hver, hcr⟩ := hr.mem.get hg
       obtain ⟨hm2, hk2, L2, hL2, hver2, _⟩ := hr.mem.get hg2
       simp only at hk hver hk2 hver2
       subst hk; subst hk2
       have hrows : rows = rows.dropLast ++ [xs] := by
        rcases List.eq_nil_or_concat rows with rfl | ⟨r, x, rfl⟩
        · simp at hxs
        · simp at hxs; subst hxs; simp
       obtain ⟨r, hr0⟩ : ∃ r, r = rows.dropLast := ⟨_, rfl⟩
       rw [← hr0] at hrows ⊢
       subst hrows
       obtain ⟨⟨h0, h1, h2⟩, h3, h4, h5⟩ : VRel φ w (Fo G φ S.mem) L (r ++ [xs]) none := hcr
       simp only [List.length_append, List.length_singleton, Option.toList_none, List.length_nil, Nat.add_zero] at h1 h2
       obtain ⟨arr, elem, g1, g2, g3, g4, _⟩ := h5 (by omega)
       obtain ⟨subs, o, hsub, hsl⟩ := subs_last h2
       have hlast := g4 r.length xs o (by simp) (by rw [hsub, ← hsl]; simp)
       have hin : ∀ b, some b ∈ subs → some b ∈ L.subs := fun b hb => by rw [hsub]; simp [hb]
       have hi1 : ∀ (i : Nat) (x : Option Nat), subs[i]? = some x → L.subs[i]? = some x := fun i x hx => by
        rw [hsub, List.getElem?_append_left (List.getElem?_eq_some_iff.1 hx).1]; exact hx
       have hnin : ∀ b, o = some b → some b ∉ subs := fun b hb hm => by
        obtain ⟨i, hi⟩ := List.getElem?_of_mem hm
        have hlt := (List.getElem?_eq_some_iff.1 hi).1
        have := h3 i r.length b (hi1 i _ hi) (by rw [hsub, ← hsl, ← hb]; simp)
        omega
       have base : ∀ (L2' : Loc) (x : Value), (L2'.ver = v2 + 1 ∧ L2'.sz = 1) → arr[L.base + r.length]? = some x → (∀ (φ' : Phi) (F' : Nat → Prop), φ' key2 = some L2' → AVRel φ' w F' (.vec key2 (v2 + 1) 0 xs.length) x) →
        (∀ b, 0 < L2'.cap → L2'.blk = b → o = some b) →
        (∀ (φ' : Phi) (F' : Nat → Prop), φ.le φ' → (∀ b, F' b → Fo G φ S.mem b) → ContRel φ' w F' L2' (.vec 1 xs)) →
        ∃ φ', Rel φ' G { S with mem := Mem.set (Mem.set S.mem ⟨key, v, .vv r (some (.vec key2 (v2 + 1) 0 xs.length))⟩) ⟨key2, v2 + 1, .vec 1 xs⟩ } a w ∧ Keeps φ S.mem w φ' (Mem.set (Mem.set S.mem ⟨key, v, .vv r (some (.vec key2 (v2 + 1) 0 xs.length))⟩) ⟨key2, v2 + 1, .vec 1 xs⟩) w := by
        intro L2' x hL2' hx hav hblk hcont
        have hc1 : ∀ (φ' : Phi) (F' : Nat → Prop), φ.le φ' → φ' key2 = some L2' → (∀ b, F' b → Fo G φ S.mem b) → ContRel φ' w F' { L with subs := subs } (.vv r (some (.vec key2 (v2 + 1) 0 xs.length))) := by
         intro φ' F' hle f2 hF
         refine ⟨⟨h0, by simp; omega, hsl⟩, fun i j b hi hj => h3 i j b (hi1 _ _ hi) (hi1 _ _ hj), fun b hb => h4 b (hin b hb), fun _ => ⟨arr, elem, g1, g2, g3, fun i xs' o' hi ho => ?_, fun y hy => ?_⟩⟩
         · have hil := (List.getElem?_eq_some_iff.1 hi).1
           exact (g4 i xs' o' (by rw [List.getElem?_append_left hil]; exact hi) (hi1 _ _ ho)).mono (fun d u _ hu => hu.mono (fun _ _ _ => rfl) (Nat.le_refl _) (fun b _ => hF b)) (fun _ _ => rfl)
         · cases hy
           exact ⟨x, hx, hav φ' F' f2⟩
        obtain ⟨φ', hm', hk'⟩ := hr.mem.upd2 (e1' := ⟨key, v, .vv r (some (.vec key2 (v2 + 1) 0 xs.length))⟩) (e2' := ⟨key2, v2 + 1, .vec 1 xs⟩) hm hm2 hne hL hL2 (L1' := { L with subs := subs }) (L2' := L2') rfl rfl (Nat.le_refl _) (by rw [hL2'.1]; omega)
         (fun _ => rfl) (fun hh => by rw [hL2'.1] at hh; omega) hver hL2'.1 (fun b hb => .inl (by
          rcases hb with hb | hb
          · exact .inl hb
          · exact .inr (hin b hb))) (fun b hb => .inl (.inr (by rw [hsub, hblk b hb.1 hb.2]; simp))) (fun b hb1 hb2 => by
          have hob := hblk b hb2.1 hb2.2
          rcases hb1 with ⟨_, hb1⟩ | hb1
          · exact (h4 b (by rw [hsub, hob]; simp)).2 hb1.symm
          · exact hnin b hob hb1) (fun φ' F' hle f1 f2 hF => ⟨hc1 φ' F' hle f2 hF, hcont φ' F' hle hF⟩)
        exact ⟨φ', hr.turn hm' hk', hk'⟩
       cases o with
       | none =>
        obtain ⟨rfl, b, hv⟩ := hlast
        exact base ⟨v2 + 1, 0, 1, 0, 0, []⟩ _ ⟨rfl, rfl⟩ hv (fun φ' F' hf => .vec key2 _ 0 0 _ _ hf (Nat.le_refl _) (fun _ => ⟨_, _, rfl, by simp, fun h => by omega⟩) rfl) (fun b hb => by simp at hb) (fun φ' F' hle hF => ⟨rfl, by simp, by simp, fun hc => by simp at hc⟩)
       | some b =>
        obtain ⟨row, re, off, cap, q1, q2, q3, q4, q5, q6, q7⟩ := hlast
        refine base ⟨v2 + 1, b, 1, row.size - off, off, []⟩ _ ⟨rfl, rfl⟩ q1 (fun φ' F' hf => .vec key2 _ 0 _ _ _ hf (Nat.le_refl _) (fun _ => ⟨_, cap, rfl, q3, fun h => ⟨by simp, by simp only; omega⟩⟩) rfl) (fun b' _ hb => by simp only at hb; rw [hb]) (fun φ' F' hle hF => ?_)
        refine ⟨rfl, by simp only; omega, fun d hd => ?_, fun hc => ⟨row, re, q5, by simp only; omega, q6, fun i d hi => ?_⟩⟩
        · obtain ⟨i, hi⟩ := List.getElem?_of_mem hd
          exact (q7 i d hi).1
        · obtain ⟨_, u, hu, hj⟩ := q7 i d hi
          exact ⟨u, hu.mono (fun _ _ _ => rfl) (Nat.le_refl _) (fun b _ => hF b), hj⟩
   · exact Turn.refl S
 · exact Turn.refl S
theorem turn_cls (S : St) (k k2 : Nat) : Turn S (S.cls k k2) := by
 unfold St.cls
 split
 · rename_i key v rows k3 v3 len key2 v2 xs hg hg2
   split
   · exact Turn.refl S
   · rename_i hne
     split
     · rename_i hcond
       obtain ⟨rfl, rfl, rfl⟩ := hcond
       refine ⟨rfl, rfl, fun φ G a w hr => ?_⟩
       obtain ⟨hm, hk, L, hL, hver, hcr⟩ := hr.mem.get hg
       obtain ⟨hm2, hk2, L2, hL2, hver2, hcr2⟩ := hr.mem.get hg2
       simp only at hk hver hk2 hver2
       subst hk; subst hk2
       obtain ⟨⟨h0, h1, h2⟩, h3, h4, h5⟩ : VRel φ w (Fo G φ S.mem) L rows (some (.vec key2 v3 0 xs.length)) := hcr
       simp only [Option.toList_some, List.length_singleton] at h1
       obtain ⟨arr, elem, g1, g2, g3, g4, g5⟩ := h5 (by omega)
       obtain ⟨y, gy, gav⟩ := g5 _ rfl
       obtain ⟨z0, z1, z2, z3⟩ := hcr2
       have hout : ∀ b, 0 < L2.cap → L2.blk = b → (L.blk = b ∨ some b ∈ L.subs) → False := by
        intro b hc hb hh
        refine hne (hr.mem.apart _ hm _ hm2 L L2 hL hL2 ⟨b, ?_, ⟨hc, hb⟩⟩)
        rcases hh with hh | hh
        · exact .inl ⟨by omega, hh⟩
        · exact .inr hh
       have base : ∀ (o : Option Nat), (∀ b, o = some b → 0 < L2.cap ∧ L2.blk = b) → (∀ F' : Nat → Prop, (∀ b, F' b → Fo G φ S.mem b) → SubRel w F' (some y) xs o) →
        ∃ φ', Rel φ' G { S with mem := Mem.set (Mem.set S.mem ⟨key, v, .vv (rows ++ [xs]) none⟩) ⟨key2, v3 + 1, .dead⟩ } a w ∧ Keeps φ S.mem w φ' (Mem.set (Mem.set S.mem ⟨key, v, .vv (rows ++ [xs]) none⟩) ⟨key2, v3 + 1, .dead⟩) w := by
        intro o ho hsr
        have hiL : ∀ (i b : Nat), (L.subs ++ [o])[i]? = some (some b) → (L.subs[i]? = some (some b) ∧ i < L.subs.length) ∨ (i = L.subs.length ∧ o = some b) := by
         intro i b hi
         rcases Nat.lt_trichotomy i L.subs.length with hlt | heq | hgt
         · rw [List.getElem?_append_left hlt] at hi; exact .inl ⟨hi, hlt⟩
         · subst heq; simp at hi; exact .inr ⟨rfl, hi⟩
         · rw [List.getElem?_append_right (by omega)] at hi
           have : i - L.subs.length = (i - L.subs.length - 1) + 1 := by omega
           rw [this] at hi; simp at hi
        have hc1 : ∀ (φ' : Phi) (F' : Nat → Prop), (∀ b, F' b → Fo G φ S.mem b) → ContRel φ' w F' { L with subs := L.subs ++ [o] } (.vv (rows ++ [xs]) none) := by
         intro φ' F' hF
         refine ⟨⟨h0, by simp; omega, by simp [h2]⟩, fun i j b hi hj => ?_, fun b hb => ?_, fun _ => ⟨arr, elem, g1, g2, g3, fun i xs' o' hi ho' => ?_, fun y hy => by cases hy⟩⟩
         · rcases hiL i b hi with ⟨hi1, hil⟩ | ⟨hi0, hi1⟩ <;> rcases hiL j b hj with ⟨hj1, hjl⟩ | ⟨hj0, hj1⟩
           · exact h3 i j b hi1 hj1
           · exact (hout b (ho b hj1).1 (ho b hj1).2 (.inr (List.mem_of_getElem? hi1))).elim
           · exact (hout b (ho b hi1).1 (ho b hi1).2 (.inr (List.mem_of_getElem? hj1))).elim
           · rw [hi0, hj0]
         · simp only [List.mem_append, List.mem_singleton] at hb
           refine ⟨by simp only; omega, ?_⟩
           rcases hb with hb | hb
           · exact (h4 b hb).2
           · exact fun hh => hout b (ho b hb.symm).1 (ho b hb.symm).2 (.inl hh.symm)
         · rcases Nat.lt_or_ge i rows.length with hlt | hge
           · rw [List.getElem?_append_left hlt] at hi
             rw [List.getElem?_append_left (by omega)] at ho'
             exact (g4 i xs' o' hi ho').mono (fun d u _ hu => hu.mono (fun _ _ _ => rfl) (Nat.le_refl _) (fun b _ => hF b)) (fun _ _ => rfl)
           · have hie : i = rows.length := by have := (List.getElem?_eq_some_iff.1 hi).1; simp at this; omega
             subst hie
             simp at hi; subst hi
             rw [← h2] at ho'; simp at ho'; subst ho'
             simp only
             rw [gy]; exact hsr F' hF
        obtain ⟨φ', hm', hk'⟩ := hr.mem.upd2 (e1' := ⟨key, v, .vv (rows ++ [xs]) none⟩) (e2' := ⟨key2, v3 + 1, .dead⟩) hm hm2 hne hL hL2 (L1' := { L with subs := L.subs ++ [o] }) (L2' := { L2 with ver := v3 + 1 }) rfl rfl (Nat.le_refl _) (by simp only; omega)
         (fun _ => rfl) (fun hh => by simp only at hh; omega) hver rfl (fun b hb => by
          rcases hb with hb | hb
          · exact .inl (.inl hb)
          · simp only [List.mem_append, List.mem_singleton] at hb
            rcases hb with hb | hb
            · exact .inl (.inr hb)
            · exact .inr (ho b hb.symm)) (fun b hb => hb.elim) (fun b _ hb2 => hb2) (fun φ' F' hle f1 f2 hF => ⟨hc1 φ' F' hF, trivial⟩)
        exact ⟨φ', hr.turn hm' hk', hk'⟩
       cases gav with
       | vec _ _ _ _ _ L' hL' hv' hq hc1 =>
        rw [hL2] at hL'; cases hL'
        obtain ⟨ad, cap, rfl, hlc, hcap⟩ := hq hver2.symm
        by_cases hcp : 0 < cap
        · obtain ⟨rfl, hcl⟩ := hcap hcp
          obtain ⟨arr2, e2, t1, t2, t3, t4⟩ := z3 (by omega)
          refine base (some L2.blk) (fun b hb => by cases hb; exact ⟨by omega, rfl⟩) (fun F' hF => ⟨arr2, e2, L2.base, cap, by simp, hcp, hlc, by rw [t2, z0]; omega, t1, t3, fun i d hd => ?_⟩)
          obtain ⟨u, hu, hj⟩ := t4 i d hd
          rw [z0] at hj
          exact ⟨by rw [z2 d (List.mem_of_getElem? hd), z0], u, hu.mono (fun _ _ _ => rfl) (Nat.le_refl _) (fun b _ => hF b), hj⟩
        · have hxl : xs = [] := List.length_eq_zero_iff.1 (by omega)
          have hc0 : cap = 0 := by omega
          subst hc0
          refine base none (fun b hb => by cases hb) (fun F' hF => ⟨hxl, ad, by rw [hxl]; rfl⟩)
     · exact Turn.refl S
 · exact Turn.refl S
theorem turn_shut (S : St) (k : Nat) : Turn S (S.shut k) := by
 unfold St.shut
 split
 · rename_i key v rows y hg
   refine ⟨rfl, rfl, fun φ G a w hr => ?_⟩
   obtain ⟨hm, hk, L, hL, hver, hcr⟩ := hr.mem.get hg
   simp only at hk hver
   subst hk
   obtain ⟨φ', hm', hk', _, _⟩ := hr.mem.upd (e' := ⟨key, v, .vv rows none⟩) hm hL rfl (L' := L) (Nat.le_refl _) (fun _ => rfl) hver
    (w' := w) (fun _ _ _ => rfl) (Nat.le_refl _) (fun _ ho => .inl ho) rfl rfl rfl (fun φ' hφ' hle' => by
     obtain ⟨⟨h0, h1, h2⟩, h3, h4, h5⟩ : VRel φ w (Fo G φ S.mem) L rows (some y) := hcr
     refine ⟨⟨h0, by simp at h1 ⊢; omega, h2⟩, h3, h4, fun hc => ?_⟩
     obtain ⟨arr, elem, g1, g2, g3, g4, g5⟩ := h5 hc
     refine ⟨arr, elem, g1, g2, g3, fun i xs o hi ho => (g4 i xs o hi ho).mono (fun d u _ hu => hu.mono (fun _ _ _ => rfl) (Nat.le_refl _) (fun b _ hb => ?_)) (fun _ _ => rfl), fun y hy => by cases hy⟩
     rcases hb with hb | ⟨x, hx, Lx, hLx, hox⟩
     · exact .inl hb
     · right
       rcases (Mem.mem_set hr.mem.nodup).1 hx with ⟨rfl, _⟩ | ⟨hxm, hxk⟩
       · simp only [hφ', if_true] at hLx; cases hLx
         exact ⟨_, hm, L, hL, hox⟩
       · simp only [hφ', hxk, if_false] at hLx
         exact ⟨x, hxm, Lx, hLx, hox⟩)
   exact ⟨φ', hr.turn hm' hk', hk'⟩
 · exact Turn.refl S
theorem turn_adoptV (S : St) (kb j k : Nat) : Turn S (S.adoptV kb j k) := by
 unfold St.adoptV
 split
 · rename_i key vb cs key2 v cont hgb hg
   split
   · rename_i hj
     split
     · exact Turn.refl S
     · rename_i hne
       refine ⟨rfl, rfl, fun φ G a w hr => ?_⟩
       obtain ⟨hmb, hkb, Lb, hLb, hverb, hcrb⟩ := hr.mem.get hgb
       obtain ⟨hm, hk, L, hL, hver, hcr⟩ := hr.mem.get hg
       simp only at hkb hverb hk hver
       subst hkb; subst hk
       have hc1 : ∀ (φ' : Phi) (F' : Nat → Prop), φ.le φ' → φ' key2 = some ⟨v + 1, 0, 1, 0, 0, []⟩ → (∀ b, F' b → Fo G φ S.mem b) → ContRel φ' w F' Lb (.box (cs.set j (.vec key2 (v + 1) 0 0))) := by
        intro φ' F' hle f2 hF
        obtain ⟨g0, arr, elem, g1, g2, g3, g4⟩ := hcrb
        refine ⟨by simpa using g0, arr, elem, g1, by simp [g2], g3, fun i c u hc hu => ?_⟩
        rw [List.getElem?_set] at hc
        split at hc
        · rename_i hij
          subst hij
          split at hc
          · cases hc
            have := g4 j _ u hj hu
            cases this
            exact .vec key2 (v + 1) 0 0 _ _ f2 (Nat.le_refl _) (fun _ => ⟨_, _, rfl, by simp, fun h => by omega⟩) rfl
          · cases hc
        · exact (g4 i c u hc hu).mono hle (fun _ _ _ => rfl) (Nat.le_refl _) (fun b _ => hF b)
       obtain ⟨φ', hm', hk'⟩ := hr.mem.upd2 (e1' := ⟨key, vb, .box (cs.set j (.vec key2 (v + 1) 0 0))⟩) (e2' := ⟨key2, v + 1, .vv [] none⟩) hmb hm hne hLb hL (L1' := Lb) (L2' := ⟨v + 1, 0, 1, 0, 0, []⟩) rfl rfl (Nat.le_refl _) (by simp only; omega)
        (fun _ => rfl) (fun hh => by simp only at hh; omega) hverb rfl (fun b hb => .inl hb) (fun b hb => by
         rcases hb with ⟨hb, _⟩ | hb
         · simp at hb
         · simp at hb) (fun b _ hb => by
         rcases hb with ⟨hb, _⟩ | hb
         · simp at hb
         · simp at hb) (fun φ' F' hle f1 f2 hF => ⟨hc1 φ' F' hle f2 hF, ⟨⟨rfl, by simp, rfl⟩, fun i j b hi => by simp at hi, fun b hb => by simp at hb, fun hc => by simp at hc⟩⟩)
       exact ⟨φ', hr.turn hm' hk', hk'⟩
   · exact Turn.refl S
 · exact Turn.refl S
theorem turn_gh (S : St) (g : Gh) : Turn S (g.go S) := by
 cases g with
 | trim k => exact turn_trim1 S k
 | freeze k => exact turn_freeze S k
 | adopt kb j k sz => exact turn_adopt S kb j k sz
 | rekey k k2 => exact turn_rekey S k k2
 | opn k k2 => exact turn_opn S k k2
 | cls k k2 => exact turn_cls S k k2
 | shut k => exact turn_shut S k
 | adoptV kb j k => exact turn_adoptV S kb j k
theorem turn_ghs : ∀ (l : List Gh) (S : St), Turn S (ghs S l)
 | [], S => Turn.refl S
 | g :: r, S => (turn_gh S g).trans (turn_ghs r _)
theorem turn_leave (X : Ctx) (f : FuncId) (id : Nat) (S : St) : Turn S (S.leave X f id) := (turn_prune S _).trans (turn_ghs _ _)
def codeDst (X : Ctx) (f : FuncId) (n : Nat) : Code → Bool
 | .region id ops draw => dstsOk n ops.toList && (!draw || ordS ops.toList (X.od f id))
 | .seq a b => codeDst X f n a && codeDst X f n b
 | .cond _ a b => codeDst X f n a && codeDst X f n b
 | .block _ c => codeDst X f n c
 | .loop c => codeDst X f n c
 | _ => true
structure CtxOk (X : Ctx) : Prop where
 ov : X.ov = none
 names : ∀ (g : FuncId) (fn : Func), X.P.funcs[g]? = some fn → fn.name ≠ "runtime.NumGoroutine"
 dsts : ∀ (g : FuncId) (fn : Func) (c : Code), X.P.funcs[g]? = some fn → fn.body = some c → codeDst X g fn.ntmps c = true
 mixed : X.P.follows .mixedOrders = true
 orc : ∀ (g : FuncId) (h : List AV → Option AV), X.orc g = some h → callable X.P g = true ∧ ∀ (avs : List AV) (a : AV), h avs = some a → ∀ (φ : Phi) (F : Nat → Prop) (w : World) (vs : Array Value), GlobRel w F X.gl → (∀ b, F b → b < w.heap.size) → avs.length = vs.size →
  (∀ (i : Nat) x v, avs[i]? = some x → vs[i]? = some v → AVRel φ w F x v) → Calls X.P g vs w fun e w' => ∃ v, e = .returned v ∧ Go.RowKit.Below w.heap.size w w' ∧ AVRel φ w' F a v
theorem Post.is {n : Nat} {φ : Phi} {G : Fr} {m : Mem} {w : World} {e : XE} {S' : St} {e' : Exit} {a' : Act} {w' : World} (h : Post n φ G m w (Is e S') e' a' w') :
 ∃ φ', S'.n = n ∧ Rel φ' G S' a' w' ∧ Keeps φ m w φ' S'.mem w' ∧ (match e' with
  | .normal => e = .normal
  | .exit id => e = .exit id
  | .ret => e = .ret
  | .panic chain => ∃ t x v, e = .panic t x ∧ chain = [{ v := .iface t v, recovered := false }] ∧ DRel w' (Fo G φ' S'.mem) x v
  | _ => False) := by
 cases e' with
 | normal => obtain ⟨φ', S2, hn, ⟨h1, rfl⟩, h2, h3⟩ := h; exact ⟨φ', hn, h2, h3, h1.symm⟩
 | exit id => obtain ⟨φ', S2, hn, ⟨h1, rfl⟩, h2, h3⟩ := h; exact ⟨φ', hn, h2, h3, h1.symm⟩
 | ret => obtain ⟨φ', S2, hn, ⟨h1, rfl⟩, h2, h3⟩ := h; exact ⟨φ', hn, h2, h3, h1.symm⟩
 | panic chain => obtain ⟨φ', S2, t, x, v, hc, hd, hn, ⟨h1, rfl⟩, h2, h3⟩ := h; exact ⟨φ', hn, h2, h3, t, x, v, h1.symm, hc, hd⟩
 | _ => exact h.elim
section
variable {X : Ctx} {cl : CallFn} {f : FuncId} {n : Nat}
theorem leave_ok {P : Program} {S : St} {e : XE} {c : Code} {k : St → St} (hk : ∀ S, Turn S (k S)) {r : Option (XE × St)} {S' : St} (h : mapN k r = some (e, S'))
 (hr : ∀ e1 S1, r = some (e1, S1) → S1.n = S.n ∧ S1.gl = S.gl ∧ Tri P c S (Is e1 S1)) : S'.n = S.n ∧ S'.gl = S.gl ∧ Tri P c S (Is e S') := by
 unfold mapN at h
 split at h
 · rename_i S1
   cases h
   obtain ⟨h1, h2, h3⟩ := hr _ _ rfl
   obtain ⟨t1, t2, t3⟩ := hk S1
   refine ⟨t1.trans h1, t2.trans h2, fun φ G a w hrel => wp_mono (h3 φ G a w hrel) fun e' a' w' hp => ?_⟩
   obtain ⟨φ', hn, hr', hk', he⟩ := hp.is
   cases e' with
   | normal =>
    obtain ⟨φ2, hr2, hk2⟩ := t3 φ' G a' w' hr'
    exact ⟨φ2, k S1, t1.trans hn, ⟨rfl, rfl⟩, hr2, hk'.trans hk2⟩
   | exit id => cases he
   | ret => cases he
   | panic chain => obtain ⟨t, x, v, h4, _⟩ := he; cases h4
   | _ => exact he.elim
 · exact hr _ _ h
theorem cert_n2 {P : Program} {I : Mem → Prop} {all : List Oper} {ops : List Oper} {S : St} {ps : List Stp} {S1 : St} (h : Cert P I all ops S ps S1) : S1.n = S.n ∧ S1.gl = S.gl := by
 induction h with
 | nil S => exact ⟨rfl, rfl⟩
 | cons o rest S p ps S1 _ _ _ _ ih => exact ⟨ih.1.trans (app_n ..), ih.2.trans (app_gl ..)⟩
theorem cert_len {P : Program} {I : Mem → Prop} {all : List Oper} : ∀ {ops : List Oper} {S : St} {ps : List Stp} {S1 : St}, Cert P I all ops S ps S1 → ps.length = ops.length := by
 intro ops S ps S1 h
 induction h with
 | nil S => rfl
 | cons o rest S p ps S1 _ _ _ _ ih => simp [ih]
theorem farE_spec : ∀ {es : List Ent}, farE es = true → ∀ e ∈ es, 100 ≤ e.key
 | _ :: r, h, e, he => by
  simp only [farE, Bool.and_eq_true, decide_eq_true_eq] at h
  rcases List.mem_cons.1 he with rfl | he
  · exact h.1
  · exact farE_spec h.2 e he
theorem farJ_spec {ps : List Stp} : ∀ {js : List Nat}, farJ ps js = true → ∀ i ∈ js, ∀ p, ps[i]? = some p → ∀ e ∈ p.es, 100 ≤ e.key
 | k :: r, h, i, hi, p, hp, e, he => by
  simp only [farJ, Bool.and_eq_true] at h
  rcases List.mem_cons.1 hi with rfl | hi
  · have := h.1; rw [hp] at this; exact farE_spec this e he
  · exact farJ_spec h.2 i hi p hp e he
theorem ordS_pair {all : List Oper} {nd : List (List Nat)} (h : ordS all nd = true) {i j : Nat} (hij : i < j) (hj : j < all.length) (hn : i ∉ (ancs all []).getD j []) : (nd.getD i []).contains j = true ∧ (nd.getD j []).contains i = true := by
 have h1 := List.all_eq_true.1 h j (List.mem_range.2 hj)
 unfold ordSAt at h1
 rw [List.getElem?_eq_getElem hj] at h1
 simp only [Bool.and_eq_true, List.all_eq_true, Bool.or_eq_true, List.mem_range] at h1
 rcases h1.2 i hij with h2 | h2
 · exact absurd (by simpa using h2) hn
 · rw [List.getElem?_eq_getElem (by omega)] at h2
   simp only [Bool.and_eq_true] at h2
   exact h2.2
theorem region_pan {P : Program} {S S1 : St} {id : Nat} {ops : List Oper} {nd : List (List Nat)} {ps : List Stp} {j N : Nat} {t : TypeId} {x : D} (hm : P.follows .mixedOrders = true) (hordS : ordS ops nd = true)
 (hc : CertG (TT P ops j (nd.getD j []) t x N S1) 0 ops S ps) (hordD : ordD nd ps = true) (hfar : farJ ps (nd.getD j []) = true) (henv : S1.env = []) (hjl : j < ops.length) (hN : N = verSum S.mem + verSums ps + 1) :
 S1.n = S.n ∧ S1.gl = S.gl ∧ ∀ {φ : Phi} {G : Fr} {a : Act} {w : World}, Rel φ G S a w → ∀ {Q : Exit → Act → World → Prop},
 (∀ φ' a' w' v, Rel φ' G S1 a' w' → Keeps φ S.mem w φ' S1.mem w' → DRel w' (Fo G φ' S1.mem) x v → Q (.panic [{ v := .iface t v, recovered := false }]) a' w') → (Code.region id ops.toArray true).wp P Q a w := by
 have hlen := hc.len
 have hat := CertG.at (ps := ps) (S0 := S) hc [] [] rfl rfl rfl rfl rfl
 have hord := ord_of hordS hordD hlen
 obtain ⟨oj, hoj⟩ : ∃ oj, ops[j]? = some oj := ⟨ops[j], by simp [hjl]⟩
 obtain ⟨pj, hpj⟩ : ∃ pj, ps[j]? = some pj := ⟨ps[j]'(by omega), by simp [show j < ps.length by omega]⟩
 obtain ⟨hpan, hn1, hg1, hm1⟩ := (hat j oj pj (by simp) hoj hpj).2.2 rfl
 rw [runAll_n] at hn1
 rw [runAll_gl] at hg1
 refine ⟨hn1, hg1, fun {φ G a w} hr {Q} hQ => wp_region_any hm ?_⟩
 have hks : ∀ (i : Nat) (p : Stp), ps[i]? = some p → ∀ e ∈ p.es, e.key ∈ p.ks := fun i p hp => by
  have hil : i < ps.length := (List.getElem?_eq_some_iff.1 hp).1
  exact (hat i (ops[i]'(by omega)) p (by simp) (by simp [show i < ops.length by omega]) hp).1
 have hdr : Rel φ G S a { w with drawn := w.drawn + 1 } := hr.grow (fun _ _ => rfl) (Nat.le_refl _)
 have hl0 : (lst ops.length fun i => (Array.replicate ops.length false).getD i false) = [] := by
  rw [lst, List.filter_eq_nil_iff]
  intro i hi
  simp [Array.getD_eq_getD_getElem?, List.mem_range.1 hi]
 refine wpAny_pan (S0 := S) (S1 := S1) (φ0 := φ) (w0 := w) (G := G) (j := j) hlen hord hr.mem.nodup hks ?_ hoj hpj hpan ?_ hn1 hg1 henv (by rw [hm1, hN]; rfl) (fun φ' a' w' v hr' hk' hv => hQ φ' a' w' v hr' hk' hv) _ _ φ a _ (by simp) ?_ ?_ ?_ ?_ ?_
 · intro i o p ho hp hij hji
   have hil : i < ops.length := (List.getElem?_eq_some_iff.1 ho).1
   refine (hat i o p (by simp) ho hp).2.1 hij ?_
   rcases Nat.lt_or_ge i j with h | h
   · exact .inl h
   · exact .inr (ordS_pair hordS (by omega) hil hji).1
 · intro i p hp hij hi hji e he
   have hil : i < ops.length := by have := (List.getElem?_eq_some_iff.1 hp).1; omega
   have hin : (nd.getD j []).contains i = true := by
    rcases Nat.lt_or_ge i j with h | h
    · exact (ordS_pair hordS h hjl hi).2
    · exact (ordS_pair hordS (by omega) hil hji).1
   exact farJ_spec hfar i (by simpa using hin) p hp e he
 · intro j o _ hj
   exfalso
   simp only [Array.getD_eq_getD_getElem?] at hj
   by_cases h : j < ops.length
   · simp [h] at hj
   · simp [h] at hj
 · simp only [Array.getD_eq_getD_getElem?]
   simp [hjl]
 · simp only [List.size_toArray]; rw [hl0]; exact hdr
 · simp only [List.size_toArray]; rw [hl0]; exact Keeps.grow (fun _ _ => rfl) (Nat.le_refl _) rfl rfl rfl
 · simp only [List.size_toArray]
   exact Nat.le_trans (List.length_filter_le _ _) (by simp)
theorem den_ok (hX : CtxOk X) (hcl : ClOk X cl) : ∀ (c : Code) (S : St) (e : XE) (S' : St), den X f cl n c S = some (e, S') → S.gl = X.gl → codeDst X f S.n c = true →
 S'.n = S.n ∧ S'.gl = S.gl ∧ Tri X.P c S (Is e S') := by
 intro c
 induction c with
 | skip =>
  intro S e S' h hgl hd
  simp only [den, Option.some.injEq, Prod.mk.injEq] at h
  obtain ⟨rfl, rfl⟩ := h
  exact ⟨rfl, rfl, tri_skip ⟨rfl, rfl⟩⟩
 | region id ops draw =>
  intro S e S' h hgl hd
  simp only [den] at h
  simp only [codeDst, Bool.and_eq_true] at hd
  cases draw with
  | false =>
   refine leave_ok (turn_leave X f id) h (fun e1 S1 h1 => ?_)
   obtain ⟨h2, h3, h4⟩ := runOps_ok hcl ops.toList S e1 S1 h1 hgl hd.1
   exact ⟨h2, h3, fun φ G a w hr => wp_region_lit (h4 φ G a w hr _ (fun _ _ _ h => h))⟩
  | true =>
   refine leave_ok (turn_leave X f id) h (fun e1 S1 h1 => ?_)
   have hordS : ordS ops.toList (X.od f id) = true := by simpa using hd.2
   have key : (∃ I : Mem → Prop, I S.mem ∧ e1 = .normal ∧ ∃ ps S2, Cert X.P I ops.toList ops.toList S ps S2 ∧ Eqv S1 S2 ∧ ordD (X.od f id) ps = true) ∨
    (S1.n = S.n ∧ S1.gl = S.gl ∧ ∀ φ G a w, Rel φ G S a w → ∀ Q : Exit → Act → World → Prop, (e1 = .normal → ∀ φ' a' w', Rel φ' G S1 a' w' → Keeps φ S.mem w φ' S1.mem w' → Q .normal a' w') →
     (∀ t x, e1 = .panic t x → ∀ φ' a' w' v, Rel φ' G S1 a' w' → Keeps φ S.mem w φ' S1.mem w' → DRel w' (Fo G φ' S1.mem) x v → Q (.panic [{ v := .iface t v, recovered := false }]) a' w') → (Code.region id ops true).wp X.P Q a w) ∧ (e1 = .normal ∨ ∃ t x, e1 = .panic t x) := by
    cases hfl : X.fl f id with
    | nil =>
     rw [hfl] at h1
     simp only [drwA] at h1
     rcases drwOps_cert hcl ops.toList S [] e1 S1 h1 hgl hd.1 with ⟨he, ps, S2, hc, heq, hord⟩ | ⟨t, x, j, ps, he, hj1, hj2, hc, hord, hfar, henv⟩
     · exact .inl ⟨_, trivial, he, ps, S2, hc, heq, by simpa using hord⟩
     · right
       obtain ⟨h2, h3, h4⟩ := region_pan (id := id) hX.mixed hordS hc (by simpa using hord) (by simpa using hfar) henv (by simpa using hj2) rfl
       exact ⟨⟨h2, h3, fun φ G a w hr Q _ hQ => h4 hr (fun φ' a' w' v h5 h6 h7 => hQ t x he φ' a' w' v h5 h6 h7)⟩, .inr ⟨t, x, he⟩⟩
    | cons q r =>
     rw [hfl] at h1
     simp only [drwA] at h1
     cases hen : ents S.mem (q :: r) with
     | none => rw [hen] at h1; cases h1
     | some LI =>
      rw [hen] at h1
      simp only [drwE] at h1
      rcases drwI_cert hcl ops.toList S [] e1 S1 (by simp) h1 hgl hd.1 with ⟨he, ps, S2, hc, heq, hord⟩ | ⟨init, ol, ps, S2, hall, hc, hn, hord, h2, h3, h4, h5⟩
      · exact .inl ⟨_, ents_inv hen, he, ps, S2, hc, heq, by simpa using hord⟩
      · obtain ⟨hn2, hg2⟩ := cert_n2 hc
        refine .inr ⟨⟨h2.trans hn2, h3.trans hg2, fun φ G a w hr Q hQn hQp => ?_⟩, h4⟩
        have hlen : ps.length + 1 = ops.toList.length := by
         have := cert_len hc
         rw [hall]; simp [this]
        refine region_last (ops := ops.toList) hall (lastFree_of hordS hn) (ents_inv hen) hX.mixed hc (ord_more hordS hlen hn (by simpa using hord)) hr (fun φ' a' w' hr' hk' next hnx => ?_)
        exact h5 φ' G a' w' hr' next Q (fun he φ2 a2 w2 hr2 hk2 => hnx a2 w2 (hQn he φ2 a2 w2 hr2 (hk'.trans hk2))) (fun t x he φ2 a2 w2 v hr2 hk2 hv => hQp t x he φ2 a2 w2 v hr2 (hk'.trans hk2) hv)
   rcases key with ⟨I, hI, rfl, ps, S2, hc, heq, hord⟩ | ⟨⟨hn1, hg1, hwp⟩, _⟩
   rotate_left
   · exact ⟨hn1, hg1, fun φ G a w hr => hwp φ G a w hr _ (fun he φ' a' w' hr' hk' => ⟨φ', S1, hn1, ⟨he.symm, rfl⟩, hr', hk'⟩) (fun t x he φ' a' w' v hr' hk' hv => ⟨φ', S1, t, x, v, rfl, hv, hn1, ⟨he.symm, rfl⟩, hr', hk'⟩)⟩
   obtain ⟨hn1, hg1⟩ := cert_n hc
   have hord := ord_of hordS hord (cert_len hc)
   refine ⟨heq.n.trans hn1, heq.gl.trans hg1, fun φ G a w hr => ?_⟩
   exact region_draw (ops := ops.toList) hI hX.mixed hc hord hr (fun φ' a' w' hr' hk' => ⟨φ', S1, heq.n.trans hn1, ⟨rfl, rfl⟩, hr'.eqv heq.symm, by rw [heq.mem]; exact hk'⟩)
 | seq a b iha ihb =>
  intro S e S' h hgl hd
  simp only [codeDst, Bool.and_eq_true] at hd
  simp only [den] at h
  rcases andThen_some h with ⟨S1, h1, h2⟩ | ⟨h1, h2⟩
  · obtain ⟨hn1, hg1, ht1⟩ := iha S _ S1 h1 hgl hd.1
    obtain ⟨hn2, hg2, ht2⟩ := ihb S1 e S' h2 (hg1.trans hgl) (by rw [hn1]; exact hd.2)
    refine ⟨hn2.trans hn1, hg2.trans hg1, tri_seq (ht1.mono fun e1 S2 hq => ?_)⟩
    obtain ⟨rfl, rfl⟩ := hq
    exact ht2
  · obtain ⟨hn1, hg1, ht1⟩ := iha S _ S' h1 hgl hd.1
    refine ⟨hn1, hg1, tri_seq (ht1.mono fun e1 S2 hq => ?_)⟩
    obtain ⟨rfl, rfl⟩ := hq
    cases e1 with
    | normal => exact absurd rfl h2
    | _ => exact ⟨rfl, rfl⟩
 | cond c a b iha ihb =>
  intro S e S' h hgl hd
  simp only [codeDst, Bool.and_eq_true] at hd
  simp only [den] at h
  cases hc : S.opd c with
  | mk g y =>
   rw [hc] at h
   unfold condB at h
   split at h
   · rename_i t heq
     cases heq
     cases t with
     | true =>
      obtain ⟨h1, h2, h3⟩ := iha S e S' (by simpa using h) hgl hd.1
      exact ⟨h1, h2, tri_cond hc (fun _ => h3) (fun hf => by cases hf)⟩
     | false =>
      obtain ⟨h1, h2, h3⟩ := ihb S e S' (by simpa using h) hgl hd.2
      exact ⟨h1, h2, tri_cond hc (fun hf => by cases hf) (fun _ => h3)⟩
   · cases h
 | block id c ih =>
  intro S e S' h hgl hd
  simp only [den] at h
  unfold inBlk at h
  split at h
  · rename_i id' S1 h1
    obtain ⟨hn, hg, ht⟩ := ih S _ S1 h1 hgl hd
    split at h
    · rename_i hid
      cases h
      refine ⟨hn, hg, tri_block (ht.mono fun e1 S2 hq => ?_)⟩
      obtain ⟨rfl, rfl⟩ := hq
      simp only [hid, if_true]
      exact ⟨rfl, rfl⟩
    · rename_i hid
      cases h
      refine ⟨hn, hg, tri_block (ht.mono fun e1 S2 hq => ?_)⟩
      obtain ⟨rfl, rfl⟩ := hq
      simp only [hid, if_false]
      exact ⟨rfl, rfl⟩
  · rename_i hne
    obtain ⟨hn, hg, ht⟩ := ih S _ S' h hgl hd
    refine ⟨hn, hg, tri_block (ht.mono fun e1 S2 hq => ?_)⟩
    obtain ⟨rfl, rfl⟩ := hq
    cases e1 with
    | exit id' => exact absurd h (hne id' S2)
    | _ => exact ⟨rfl, rfl⟩
 | loop c ih =>
  intro S e S' h hgl hd
  simp only [den] at h
  simp only [codeDst] at hd
  have hin : ∀ (k : Nat) (S1 : St), iter (den X f cl n c) k S1 = some (e, S') → S1.gl = X.gl → codeDst X f S1.n c = true → S'.n = S1.n ∧ S'.gl = S1.gl := by
   intro k
   induction k with
   | zero => intro S1 h1; cases h1
   | succ k ihk =>
    intro S1 h1 hg1 hd1
    simp only [iter] at h1
    rcases andThen_some h1 with ⟨S2, h2, h3⟩ | ⟨h2, h3⟩
    · obtain ⟨a1, a2, _⟩ := ih S1 _ S2 h2 hg1 hd1
      obtain ⟨b1, b2⟩ := ihk S2 h3 (a2.trans hg1) (by rw [a1]; exact hd1)
      exact ⟨b1.trans a1, b2.trans a2⟩
    · obtain ⟨a1, a2, _⟩ := ih S1 _ S' h2 hg1 hd1
      exact ⟨a1, a2⟩
  obtain ⟨hn, hg⟩ := hin n S h hgl hd
  refine ⟨hn, hg, ?_⟩
  refine tri_loop (α := Nat × St) (fun x => x.2) (fun x => iter (den X f cl n c) x.1 x.2 = some (e, S') ∧ x.2.gl = X.gl ∧ codeDst X f x.2.n c = true) (fun x => x.1) (n, S) rfl ⟨h, hgl, hd⟩ ?_
  rintro ⟨k, S1⟩ ⟨h1, hg1, hd1⟩
  simp only at h1 hg1 hd1 ⊢
  cases k with
  | zero => cases h1
  | succ k =>
   simp only [iter] at h1
   rcases andThen_some h1 with ⟨S2, h2, h3⟩ | ⟨h2, h3⟩
   · obtain ⟨a1, a2, ht⟩ := ih S1 _ S2 h2 hg1 hd1
     refine ht.mono fun e1 S3 hq => ?_
     obtain ⟨rfl, rfl⟩ := hq
     exact ⟨(k, S3), rfl, ⟨h3, a2.trans hg1, by rw [a1]; exact hd1⟩, Nat.lt_succ_self k⟩
   · obtain ⟨a1, a2, ht⟩ := ih S1 _ S' h2 hg1 hd1
     refine ht.mono fun e1 S3 hq => ?_
     obtain ⟨rfl, rfl⟩ := hq
     cases e1 with
     | normal => exact absurd rfl h3
     | _ => exact ⟨rfl, rfl⟩
 | exit id =>
  intro S e S' h hgl hd
  simp only [den, Option.some.injEq, Prod.mk.injEq] at h
  obtain ⟨rfl, rfl⟩ := h
  obtain ⟨t1, t2, t3⟩ := turn_ghs (X.gh f (id + 1000000)) S
  refine ⟨t1, t2, fun φ G a w hrel => wp_mono ((tri_exit (Q := Is (.exit id) S) ⟨rfl, rfl⟩ : Tri X.P (.exit id) S (Is (.exit id) S)) φ G a w hrel) fun e' a' w' hp => ?_⟩
  obtain ⟨φ', hn, hr', hk', he⟩ := hp.is
  cases e' with
  | exit id' =>
   cases he
   obtain ⟨φ2, hr2, hk2⟩ := t3 φ' G a' w' hr'
   exact ⟨φ2, _, t1.trans hn, ⟨rfl, rfl⟩, hr2, hk'.trans hk2⟩
  | normal => cases he
  | ret => cases he
  | panic chain => obtain ⟨t, x, v, h4, _⟩ := he; cases h4
  | _ => exact he.elim
 | ret =>
  intro S e S' h hgl hd
  simp only [den, Option.some.injEq, Prod.mk.injEq] at h
  obtain ⟨rfl, rfl⟩ := h
  exact ⟨rfl, rfl, tri_ret ⟨rfl, rfl⟩⟩
 | rangeFunc _ _ _ _ => intro S e S' h; simp [den] at h
 | scope _ _ => intro S e S' h; simp [den] at h
 | label _ => intro S e S' h; simp [den] at h
 | goto _ => intro S e S' h; simp [den] at h
 | refuse _ => intro S e S' h; simp [den] at h
theorem inM_keys : ∀ (cs : List Cont) (i : Nat), (inM i cs).map (·.key) = List.range' i cs.length
 | [], i => rfl
 | c :: r, i => by simp [inM, inM_keys r, List.range'_succ]
theorem inM_ver : ∀ (cs : List Cont) (i : Nat) (e : Ent), e ∈ inM i cs → e.ver = 0
 | [], i, e, he => by simp [inM] at he
 | c :: r, i, e, he => by
  simp only [inM, List.mem_cons] at he
  rcases he with rfl | he
  · rfl
  · exact inM_ver r (i + 1) e he
theorem MemRel.dv {φ : Phi} {G : Fr} {m : Mem} {w : World} (h : MemRel φ G m w) (dv : List Deferred) : MemRel φ ⟨G.g, dv⟩ m w :=
 ⟨h.nodup, h.dom, h.ents, h.apart, h.notG, h.bound⟩
theorem Ev.dv {P : Program} {gl f args m K} (h : ∀ φ G w (vs : Array Value), G.dv = [] → MemRel φ G m w → GlobRel w (Fo G φ m) gl → args.length = vs.size → (∀ (i : Nat) x v, args[i]? = some x → vs[i]? = some v → AVRel φ w (Fo G φ m) x v) →
 Calls P f vs w fun e w' => ∃ φ' m' out, K out m' ∧ MemRel φ' G m' w' ∧ Keeps φ m w φ' m' w' ∧ OutRel φ' w' (Fo G φ' m') out e) : Ev P gl f args m K := by
 intro φ G w vs hm hg hl ha
 refine (h φ ⟨G.g, []⟩ w vs rfl (hm.dv []) hg hl ha).mono ?_
 rintro e w' ⟨φ', m', out, h1, h2, h3, h4⟩
 exact ⟨φ', m', out, h1, h2.dv G.dv, h3, h4⟩
theorem runFn_ok (hX : CtxOk X) (hcl : ClOk X cl) {fn : Func} {c : Code} {args : List AV} {cs : List Cont} {out : Out} {l : List (Nat × Cont)} (hf : X.P.funcs[f]? = some fn) (hb : fn.body = some c)
 (h : runFn X f cl n fn c args cs = some (out, l)) : Ev X.P X.gl f args (inM 0 cs) fun o m => o = out ∧ m = mkM 0 l := by
 unfold runFn at h
 split at h
 · rename_i hc
   simp only [Bool.and_eq_true, decide_eq_true_eq, List.all_eq_true] at hc
   obtain ⟨⟨⟨hal, hcs⟩, hs1⟩, hs2⟩ := hc
   refine Ev.dv ?_
   intro φ G w vs hdv hm hglob hla hav
   have hkeys : ∀ k, k ∈ (inM 0 cs).map (·.key) ↔ k < cs.length := fun k => by rw [inM_keys]; simp
   have hdis : ∀ k ∈ (X.fp f).sites, k ∉ (inM 0 cs).map (·.key) := by
    intro k hk hkm
    have h1 := hs1 k hk
    have h2 := (hkeys k).1 hkm
    omega
   have hdom : ∀ k L, φ k = some L → k < cs.length ∧ L.ver = 0 := fun k L hL => by
    have hk := hm.dom k L hL
    obtain ⟨e, he, rfl⟩ := List.mem_map.1 hk
    obtain ⟨L', hL', hver, _⟩ := hm.ents e he
    rw [hL] at hL'; cases hL'
    exact ⟨(hkeys _).1 hk, by rw [hver]; exact inM_ver cs 0 e he⟩
   have hm0 := hm.add hs2 hdis
   have hkeep0 : Keeps φ (inM 0 cs) w (φ.add (X.fp f).sites) (inM 0 cs ++ (X.fp f).sites.map dead) w := ⟨le_add hm hdis, fun _ _ _ => rfl, fun b _ ho => (own_add hdis b).1 ho, Nat.le_refl _, rfl, rfl, rfl⟩
   refine calls_of_wp hf hb ?_
   obtain ⟨S0, hS0⟩ : ∃ S0, S0 = entry fn.ntmps X.gl args cs (X.fp f).sites := ⟨_, rfl⟩
   have hr : Rel (φ.add (X.fp f).sites) G S0 { tmps := vs ++ Array.replicate (fn.ntmps - vs.size) undef, defers := [] } w := by
    rw [hS0]
    refine ⟨by simp [entry]; omega, hdv.symm, fun t x hx => ?_, hm0, ?_⟩
    · obtain ⟨j, rfl, hj⟩ := lk_entry 0 args t _ hx
      have hjl : j < vs.size := by rw [← hla]; exact (List.getElem?_eq_some_iff.1 hj).1
      have e : (vs ++ Array.replicate (fn.ntmps - vs.size) undef).getD (0 + j) undef = vs[j] := by
       simp only [Nat.zero_add, Array.getD_eq_getD_getElem?]
       rw [Array.getElem?_append_left hjl]
       simp [hjl]
      rw [e]
      exact hkeep0.av (hav j x _ hj (by simp [hjl]))
    · exact hkeep0.glob hglob
   rw [← hS0] at h
   cases hden : den X f cl n c S0 with
   | none => rw [hden] at h; cases h
   | some q =>
    obtain ⟨e, S'⟩ := q
    rw [hden] at h
    obtain ⟨hn', hg', ht⟩ := den_ok hX hcl c S0 e S' hden (by rw [hS0]; rfl) (by rw [hS0]; exact hX.dsts f fn c hf hb)
    refine wp_mono (ht _ G _ w hr) fun e' a' w' hp => ?_
    obtain ⟨φ', _, hr', hk', he⟩ := hp.is
    have hk0 : Keeps φ (inM 0 cs) w φ' S'.mem w' := by
     have : S0.mem = inM 0 cs ++ (X.fp f).sites.map dead := by rw [hS0]; rfl
     rw [this] at hk'
     exact hkeep0.trans hk'
    have retd : finish X.P (X.fp f) cs.length fn.results.toList S' = some (out, l) →
     a'.defers = [] ∧ ∃ v, (results fn a'.tmps).run X.P w' = .ok v w' ∧ ∃ φ'' m' out', (out' = out ∧ m' = mkM 0 l) ∧ MemRel φ'' G m' w' ∧ Keeps φ (inM 0 cs) w φ'' m' w' ∧ OutRel φ'' w' (Fo G φ'' m') out' (.returned v) := by
     intro hfin
     unfold finish at hfin
     split at hfin
     · rename_i cc xs hxs
       split at hfin
       · rename_i hcc
         obtain ⟨vl, h1, h2, h3⟩ := resAll_run hr' fn.results.toList cc xs hxs hcc
         obtain ⟨φ2, ys, rfl, g1, g2, g3, g4, _⟩ := finVals_ok hfin hr'.mem hr'.glob h2 h3 hk0 hdom
         have hres : (results fn a'.tmps).run X.P w' = .ok (if h : vl.toArray.size = 1 then vl.toArray[0] else .tuple vl.toArray) w' := by
          have e : results fn a'.tmps = (do let vs ← fn.results.mapM (resSem a'.tmps); pure (if h : vs.size = 1 then vs[0] else .tuple vs)) := by
           unfold results
           congr 1
          rw [e, Array.mapM_eq_mapM_toList]
          simp only [Sem.run_bind, Sem.run_map, h1, Result.andThen_ok, Sem.run_pure]
         refine ⟨hr'.defers.trans hdv, _, hres, φ2, _, _, ⟨rfl, rfl⟩, g1, g2, ?_⟩
         show AVRel φ2 w' _ (oneOf ys) _
         by_cases hone : vl.length = 1
         · obtain ⟨v, rfl⟩ : ∃ v, vl = [v] := by
            cases vl with
            | nil => simp at hone
            | cons v r => exact ⟨v, by cases r with | nil => rfl | cons _ _ => simp at hone⟩
           obtain ⟨y, rfl⟩ : ∃ y, ys = [y] := by
            cases ys with
            | nil => simp at g3
            | cons v r => exact ⟨v, by cases r with | nil => rfl | cons _ _ => simp at g3⟩
           simpa [oneOf] using g4 0 y v (by simp) (by simp)
         · have e : oneOf ys = .tup ys := by
            cases ys with
            | nil => rfl
            | cons y r => cases r with | nil => simp at g3; omega | cons _ _ => rfl
           rw [e, dif_neg (by simpa using hone)]
           exact .tup ys vl.toArray (by simpa using g3) (fun i y v h h' => g4 i y v h (by simpa using h'))
       · cases hfin
     · cases hfin
    cases e' with
    | normal => cases he; exact retd h
    | ret => cases he; exact retd h
    | exit id => cases he; cases h
    | panic chain =>
     obtain ⟨t, x, v, rfl, rfl, hd⟩ := he
     have h' : finVals (X.fp f) cs.length S' [] (fun _ => .panic t x) = some (out, l) := h
     obtain ⟨φ2, ys, rfl, g1, g2, _, _, g5⟩ := finVals_ok (vs := []) h' hr'.mem hr'.glob rfl (by simp) hk0 hdom
     exact ⟨hr'.defers.trans hdv, φ2, _, _, ⟨rfl, rfl⟩, g1, g2, v, rfl, hd.mono (fun _ _ _ => rfl) (Nat.le_refl _) (fun b _ => g5 b)⟩
    | _ => exact he.elim
 · cases h
theorem Ev.split {P : Program} {gl f r m K} (h1 : Ev P gl f (.lit (.slice none 0 0) :: r) m K) (h2 : Ev P gl f (.nn :: r) m K) : Ev P gl f (.d (.list []) :: r) m K := by
 intro φ G w vs hm hg hl ha
 have go : ∀ y, (∀ v, vs[0]? = some v → AVRel φ w (Fo G φ m) y v) → ∀ (i : Nat) x v, (y :: r)[i]? = some x → vs[i]? = some v → AVRel φ w (Fo G φ m) x v := by
  intro y hy i x v hx hv
  cases i with
  | zero => simp at hx; subst hx; exact hy v hv
  | succ i => exact ha (i + 1) x v (by simpa using hx) hv
 have hsz : 0 < vs.size := by rw [← hl]; simp
 have h0 := ha 0 (.d (.list [])) vs[0] (by simp) (by simp [hsz])
 generalize hv0 : vs[0] = v0 at h0
 have hget : vs[0]? = some v0 := by rw [← hv0]; simp [hsz]
 cases h0 with
 | d _ _ hd =>
  cases hd with
  | nil a cap hn =>
   cases a with
   | none =>
    have := hn rfl
    subst this
    exact h1 φ G w vs hm hg (by simpa using hl) (go _ (fun v hv => by rw [hget] at hv; cases hv; exact .lit _ rfl))
   | some a => exact h2 φ G w vs hm hg (by simpa using hl) (go _ (fun v hv => by rw [hget] at hv; cases hv; exact .nn a cap))
  | list _ b off cap sz vs' => exact h2 φ G w vs hm hg (by simpa using hl) (go _ (fun v hv => by rw [hget] at hv; cases hv; exact .nn _ cap))
theorem emptyVec_some {r : Option (Out × List (Nat × Cont))} {sz : Nat} (h : emptyVec r = some sz) : r = some (.ret (.vec 0 0 0 0), [(0, .vec sz [])]) := by
 unfold emptyVec at h
 split at h
 · cases h; rfl
 · cases h
theorem orcAns_some {h : List AV → Option AV} {args : List AV} {cs : List Cont} {r : Out × List (Nat × Cont)} (hr : orcAns h args cs = some r) : cs = [] ∧ ∃ d, h args = some d ∧ r = (.ret d, []) := by
 unfold orcAns at hr
 split at hr
 · split at hr
   · rename_i d hd; cases hr; exact ⟨rfl, d, hd, rfl⟩
   · cases hr
 · cases hr
theorem toDs_eq : ∀ {args : List AV} {ds : List D}, toDs args = some ds → args = ds.map .d
 | [], ds, h => by
  simp only [toDs, Option.some.injEq] at h
  subst h; rfl
 | y :: r, ds, h => by
  cases hr : toDs r with
  | none => unfold toDs at h; rw [hr] at h; cases y <;> cases h
  | some ys =>
   unfold toDs at h
   rw [hr] at h
   cases y <;> cases h
   rw [toDs_eq hr]; rfl
theorem orc_ok (hX : CtxOk X) {g : FuncId} {h : List AV → Option AV} (hg : X.orc g = some h) {args : List AV} {cs : List Cont} {out : Out} {l : List (Nat × Cont)} (hr : orcAns h args cs = some (out, l)) :
 callable X.P g = true ∧ Ev X.P X.gl g args (inM 0 cs) fun o m => o = out ∧ m = mkM 0 l := by
 obtain ⟨hc, hev⟩ := hX.orc g h hg
 refine ⟨hc, ?_⟩
 obtain ⟨rfl, d, hd, he⟩ := orcAns_some hr
 cases he
 intro φ G w vs hm hgl hl ha
 have hO : ∀ b, Own φ (inM 0 []) b → False := by
  rintro b ⟨e, he, _⟩
  simp [inM] at he
 refine (hev args d hd φ (Fo G φ (inM 0 [])) w vs hgl (fun b hb => hb.elim (hm.bound b) fun h => (hO b h).elim) hl ha).mono ?_
 rintro e w' ⟨v, rfl, hb, hdv⟩
 refine ⟨φ, inM 0 [], .ret d, ⟨rfl, rfl⟩, ⟨hm.nodup, hm.dom, fun e he => by simp [inM] at he, fun e he => by simp [inM] at he, fun b hb => (hO b hb).elim, fun b hb' => Nat.lt_of_lt_of_le (hm.bound b hb') hb.size⟩, ⟨Phi.le_refl _, fun b hlt _ => hb.block b hlt, fun b _ ho => ho, hb.size, hb.os, hb.tape, hb.output⟩, ?_⟩
 exact hdv
end
def DfRel (φ : Phi) (w : World) (F : Nat → Prop) (x : DF) (d : Deferred) : Prop :=
 ∃ ca : Array Value, d.target = .fn (.func x.1) ca ∧ x.2.length = (d.args ++ ca).size ∧ ∀ (i : Nat) y v, x.2[i]? = some y → (d.args ++ ca)[i]? = some v → AVRel φ w F y v
def DfsRel (φ : Phi) (w : World) (F : Nat → Prop) : List DF → List Deferred → Prop
 | [], [] => True
 | x :: xs, d :: ds => DfRel φ w F x d ∧ DfsRel φ w F xs ds
 | _, _ => False
theorem DfsRel.keeps {φ m w φ' m' w'} {G : Fr} (h : Keeps φ m w φ' m' w') : ∀ {xs : List DF} {ds : List Deferred}, DfsRel φ w (Fo G φ m) xs ds → DfsRel φ' w' (Fo G φ' m') xs ds
 | [], [], _ => trivial
 | x :: xs, d :: ds, ⟨⟨ca, h1, h2, h3⟩, h4⟩ => ⟨⟨ca, h1, h2, fun i y v hy hv => h.av (h3 i y v hy hv)⟩, DfsRel.keeps h h4⟩
 | [], _ :: _, hx => hx.elim
 | _ :: _, [], hx => hx.elim
def PostD (n : Nat) (φ : Phi) (g : Nat → Prop) (m : Mem) (w : World) (e : XE) (S' : St) (ds' : List DF) (e' : Exit) (a' : Act) (w' : World) : Prop :=
 ∃ φ' dv', S'.n = n ∧ Rel φ' ⟨g, dv'⟩ S' a' w' ∧ Keeps φ m w φ' S'.mem w' ∧ DfsRel φ' w' (Fo ⟨g, dv'⟩ φ' S'.mem) ds' dv' ∧ (match e' with
  | .normal => e = .normal
  | .exit id => e = .exit id
  | .ret => e = .ret
  | .panic chain => ∃ t x v, e = .panic t x ∧ chain = [{ v := .iface t v, recovered := false }] ∧ DRel w' (Fo ⟨g, dv'⟩ φ' S'.mem) x v
  | _ => False)
theorem PostD.weaken {n : Nat} {φ φ1 : Phi} {g : Nat → Prop} {m m1 : Mem} {w w1 : World} {e S' ds' e' a' w'} (h : PostD n φ1 g m1 w1 e S' ds' e' a' w') (hk : Keeps φ m w φ1 m1 w1) : PostD n φ g m w e S' ds' e' a' w' := by
 obtain ⟨φ', dv', h1, h2, h3, h4, h5⟩ := h
 exact ⟨φ', dv', h1, h2, hk.trans h3, h4, h5⟩
theorem deferOf_some {S : St} {o : Oper} {d : DF} (h : deferOf S o = some d) : o.guard = none ∧ ∃ c fv args tys g caps, o.op = .defer c ∧ c = { callee := .value fv, args, argTypes := tys } ∧ S.opd fv = (true, .fn g caps) ∧ g < bnB ∧ okAll S args.toList = true ∧ d = (g, argVals S args.toList ++ caps) := by
 unfold deferOf at h
 split at h
 · rename_i fv args tys hg ho
   unfold dfv at h
   split at h
   · rename_i g caps hfv
     split at h
     · rename_i hok
       cases h
       simp only [Bool.and_eq_true, decide_eq_true_eq] at hok
       exact ⟨hg, _, fv, args, tys, g, caps, ho, rfl, hfv, hok.2, hok.1, rfl⟩
     · cases h
   · cases h
 · cases h
section
variable {X : Ctx} {cl : CallFn} {f : FuncId} {n : Nat}
theorem runOpsD_ok {md : Bool} {all : List Oper} (hcl : ClOk X cl) : ∀ (ops : List Oper) (S : St) (ds : List DF) (e : XE) (S' : St) (ds' : List DF), runOpsD X cl md all ops S ds = some (e, S', ds') → S.gl = X.gl → dstsOk S.n ops = true →
 S'.n = S.n ∧ S'.gl = S.gl ∧ ∀ φ g dv a w, Rel φ ⟨g, dv⟩ S a w → DfsRel φ w (Fo ⟨g, dv⟩ φ S.mem) ds dv → ∀ Q : Exit → Act → World → Prop, (∀ e' a' w', PostD S.n φ g S.mem w e S' ds' e' a' w' → Q e' a' w') → wpList X.P all.toArray Q ops a w
 | [], S, ds, e, S', ds', h, hgl, hd => by
  simp only [runOpsD, Option.some.injEq, Prod.mk.injEq] at h
  obtain ⟨rfl, rfl, rfl⟩ := h
  exact ⟨rfl, rfl, fun φ g dv a w hr hdf Q hQ => hQ .normal _ _ ⟨φ, dv, rfl, hr, Keeps.refl .., hdf, rfl⟩⟩
 | o :: rest, S, ds, e, S', ds', h, hgl, hd => by
  simp only [dstsOk, List.all_cons, Bool.and_eq_true] at hd
  obtain ⟨hd0, hd⟩ := hd
  have hdo : ∀ t, o.dst = some t → t < S.n := fun t ht => by rw [ht] at hd0; simpa using hd0
  simp only [runOpsD] at h
  cases hdef : deferOf S o with
  | some d =>
   rw [hdef] at h
   simp only at h
   obtain ⟨hg, c, fv, args, tys, g0, caps, ho, hc, hfv, hg0, hok, rfl⟩ := deferOf_some hdef
   obtain ⟨hn2, hg2, hrest⟩ := runOpsD_ok hcl rest (S.put o.dst true .junk) _ e S' ds' h ((put_gl ..).trans hgl) (by rw [put_n]; exact hd)
   refine ⟨hn2.trans (put_n ..), hg2.trans (put_gl ..), fun φ g dv a w hr hdf Q hQ => ?_⟩
   have hfe := hr.opd fv (by rw [hfv])
   rw [hfv] at hfe
   generalize hfq : a.eval fv = fval at hfe
   cases hfe with
   | bnd _ _ ca hlc hcr => exact absurd hg0 (Nat.not_lt.2 (Nat.le_add_left _ _))
   | fn _ _ ca hlt hlc hcr =>
    have hrun : (execOp a.eval o).run X.P w = .ok (.defer { target := .fn (.func g0) ca, args := args.map a.eval }) w := by
     simp [execOp, ho, hc, resolve, hfq, Deferred.ofValue]
    have hw : Region.wanted o (yielded all.toArray a.tmps) = true := by simp [Region.wanted, hg]
    unfold wpList
    rw [if_pos hw]
    left
    unfold Oper.wp
    rw [hrun, Oper.upon_defer]
    have hr1 : Rel φ ⟨g, { target := .fn (.func g0) ca, args := args.map a.eval } :: dv⟩ S { a with defers := { target := .fn (.func g0) ca, args := args.map a.eval } :: a.defers } w :=
     ⟨hr.size, by rw [hr.defers], hr.env, hr.mem.dv _, hr.glob⟩
    have hr2 := hr1.put o.dst hdo true .junk undef (fun _ => .junk _)
    refine hrest φ g _ _ w hr2 ⟨⟨ca, rfl, ?_, ?_⟩, ?_⟩ Q (fun e' a2 w2 hp => hQ e' a2 w2 ?_)
    · rw [List.length_append, argVals_length]; simp [hlc]
    · intro i y v hy hv
      rw [put_mem]
      by_cases hi : i < args.size
      · rw [List.getElem?_append_left (by rw [argVals_length]; simpa using hi), argVals_get] at hy
        rw [Array.getElem?_append_left (by simpa using hi)] at hv
        simp only [Array.getElem?_map, Option.map_eq_some_iff] at hv
        obtain ⟨z, hz, rfl⟩ := hv
        obtain ⟨z', hz', rfl⟩ := Option.map_eq_some_iff.1 hy
        rw [Array.getElem?_toList, hz] at hz'
        cases hz'
        exact hr.opd z (okAll_mem hok z (by simpa using Array.mem_of_getElem? hz))
      · rw [List.getElem?_append_right (by rw [argVals_length]; simpa using hi), argVals_length] at hy
        rw [Array.getElem?_append_right (by simpa using hi)] at hv
        simp only [Array.size_map, Array.length_toList] at hy hv
        exact hcr _ _ v hy hv
    · rw [put_mem]; exact hdf
    · rw [put_n, put_mem] at hp; exact hp
  | none =>
   rw [hdef] at h
   simp only at h
   cases hgs : gstep X cl md all S o with
   | none => rw [hgs] at h; cases h
   | some p =>
    obtain ⟨e1, S1⟩ := p
    rw [hgs] at h
    obtain ⟨hn1, hg1, hee, hop⟩ := gstep_ok hcl hgl hdo hgs
    rcases hee with rfl | ⟨t0, x0, rfl⟩
    · simp only [nextD] at h
      obtain ⟨hn2, hg2, hrest⟩ := runOpsD_ok hcl rest S1 ds e S' ds' h (hg1.trans hgl) (by rw [hn1]; exact hd)
      refine ⟨hn2.trans hn1, hg2.trans hg1, fun φ g dv a w hr hdf Q hQ => ?_⟩
      have := hop φ ⟨g, dv⟩ a w hr (wpList X.P all.toArray Q rest) Q
       (fun _ φ' a' w' hr' hk' => hrest φ' g dv a' w' hr' (hdf.keeps hk') Q (fun e' a2 w2 hp => hQ e' a2 w2 (by rw [← hn1]; exact hp.weaken hk'))) (fun t x he => by cases he)
      unfold wpList
      split
      · rename_i hw; rw [if_pos hw] at this; exact .inl this
      · rename_i hw; rw [if_neg hw] at this; exact this
    · simp only [nextD, Option.some.injEq, Prod.mk.injEq] at h
      obtain ⟨rfl, rfl, rfl⟩ := h
      refine ⟨hn1, hg1, fun φ g dv a w hr hdf Q hQ => ?_⟩
      have := hop φ ⟨g, dv⟩ a w hr (wpList X.P all.toArray Q rest) Q
       (fun he => by cases he) (fun t x he φ' a' w' v hr' hk' hv => hQ (.panic _) a' w' ⟨φ', dv, hn1, hr', hk', hdf.keeps hk', t, x, v, he, rfl, hv⟩)
      unfold wpList
      split
      · rename_i hw; rw [if_pos hw] at this; exact .inl this
      · rename_i hw; rw [if_neg hw] at this; exact this
theorem addD_ok (hX : CtxOk X) (hcl : ClOk X cl) {c : Code} {S : St} {ds : List DF} {e : XE} {S' : St} {ds' : List DF} (h : addD ds (den X f cl n c S) = some (e, S', ds')) (hgl : S.gl = X.gl) (hd : codeDst X f S.n c = true) :
 S'.n = S.n ∧ S'.gl = S.gl ∧ ∀ φ g dv a w, Rel φ ⟨g, dv⟩ S a w → DfsRel φ w (Fo ⟨g, dv⟩ φ S.mem) ds dv → c.wp X.P (PostD S.n φ g S.mem w e S' ds') a w := by
 cases hq : den X f cl n c S with
 | none => rw [hq] at h; cases h
 | some p =>
  obtain ⟨e1, S1⟩ := p
  rw [hq] at h
  simp only [addD, Option.some.injEq, Prod.mk.injEq] at h
  obtain ⟨rfl, rfl, rfl⟩ := h
  obtain ⟨h1, h2, h3⟩ := den_ok hX hcl c S e1 S1 hq hgl hd
  refine ⟨h1, h2, fun φ g dv a w hr hdf => wp_mono (h3 φ ⟨g, dv⟩ a w hr) fun e' a' w' hp => ?_⟩
  obtain ⟨φ', hn', hr', hk', he⟩ := hp.is
  exact ⟨φ', dv, hn', hr', hk', hdf.keeps hk', by cases e' <;> exact he⟩
theorem denD_ok (hX : CtxOk X) (hcl : ClOk X cl) (c : Code) : ∀ (S : St) (ds : List DF) (e : XE) (S' : St) (ds' : List DF), denD X f cl n c S ds = some (e, S', ds') → S.gl = X.gl → codeDst X f S.n c = true →
 S'.n = S.n ∧ S'.gl = S.gl ∧ ∀ φ g dv a w, Rel φ ⟨g, dv⟩ S a w → DfsRel φ w (Fo ⟨g, dv⟩ φ S.mem) ds dv → c.wp X.P (PostD S.n φ g S.mem w e S' ds') a w := by
 induction c with
 | seq a b iha ihb =>
  intro S ds e S' ds' h hgl hd
  simp only [codeDst, Bool.and_eq_true] at hd
  simp only [denD] at h
  cases hq : denD X f cl n a S ds with
  | none => rw [hq] at h; cases h
  | some p =>
   obtain ⟨e1, S1, ds1⟩ := p
   obtain ⟨hn1, hg1, ht1⟩ := iha S ds e1 S1 ds1 hq hgl hd.1
   have stop : e1 ≠ .normal → e = e1 ∧ S' = S1 ∧ ds' = ds1 := fun he => by
    rw [hq] at h
    cases e1 with
    | normal => exact absurd rfl he
    | _ => simp only [seqD, Option.some.injEq, Prod.mk.injEq] at h; exact ⟨h.1.symm, h.2.1.symm, h.2.2.symm⟩
   by_cases he : e1 = .normal
   · subst he
     rw [hq] at h
     simp only [seqD] at h
     obtain ⟨hn2, hg2, ht2⟩ := ihb S1 ds1 e S' ds' h (hg1.trans hgl) (by rw [hn1]; exact hd.2)
     refine ⟨hn2.trans hn1, hg2.trans hg1, fun φ g dv ac w hr hdf => wp_seq (wp_mono (ht1 φ g dv ac w hr hdf) fun e' a' w' hp => ?_)⟩
     obtain ⟨φ', dv', h1, h2, h3, h4, h5⟩ := hp
     cases e' with
     | normal => exact wp_mono (ht2 φ' g dv' a' w' h2 h4) fun e2 a2 w2 hp2 => by rw [hn1] at hp2; exact hp2.weaken h3
     | exit id => cases h5
     | ret => cases h5
     | panic chain => obtain ⟨t, x, v, h6, _⟩ := h5; cases h6
     | _ => exact h5.elim
   · obtain ⟨rfl, rfl, rfl⟩ := stop he
     refine ⟨hn1, hg1, fun φ g dv ac w hr hdf => wp_seq (wp_mono (ht1 φ g dv ac w hr hdf) fun e' a' w' hp => ?_)⟩
     cases e' with
     | normal => obtain ⟨_, _, _, _, _, _, h5⟩ := hp; exact absurd h5 he
     | _ => exact hp
 | region id ops draw =>
  intro S ds e S' ds' h hgl hd
  simp only [denD] at h
  split at h
  · rename_i hb
    simp only [Bool.and_eq_true, Bool.not_eq_true'] at hb
    obtain ⟨rfl, _⟩ := hb
    simp only [codeDst, Bool.and_eq_true] at hd
    have hdd : dstsOk S.n ops.toList = true := hd.1
    cases hq : runOpsD X cl (X.md f id) ops.toList ops.toList S ds with
    | none => rw [hq] at h; cases h
    | some p =>
     obtain ⟨e1, S1, ds1⟩ := p
     rw [hq] at h
     obtain ⟨hn1, hg1, ht1⟩ := runOpsD_ok hcl ops.toList S ds e1 S1 ds1 hq hgl hdd
     have hwp : ∀ φ g dv a w, Rel φ ⟨g, dv⟩ S a w → DfsRel φ w (Fo ⟨g, dv⟩ φ S.mem) ds dv → (Code.region id ops false).wp X.P (PostD S.n φ g S.mem w e1 S1 ds1) a w :=
      fun φ g dv a w hr hdf => wp_region_lit (ht1 φ g dv a w hr hdf _ (fun _ _ _ h => h))
     by_cases he : e1 = .normal
     · subst he
       simp only [leaveD, Option.some.injEq, Prod.mk.injEq] at h
       obtain ⟨rfl, rfl, rfl⟩ := h
       obtain ⟨t1, t2, t3⟩ := turn_leave X f id S1
       refine ⟨t1.trans hn1, t2.trans hg1, fun φ g dv a w hr hdf => wp_mono (hwp φ g dv a w hr hdf) fun e' a' w' hp => ?_⟩
       obtain ⟨φ', dv', h1, h2, h3, h4, h5⟩ := hp
       cases e' with
       | normal =>
        obtain ⟨φ2, hr2, hk2⟩ := t3 φ' ⟨g, dv'⟩ a' w' h2
        exact ⟨φ2, dv', t1.trans h1, hr2, h3.trans hk2, h4.keeps hk2, rfl⟩
       | exit id => cases h5
       | ret => cases h5
       | panic chain => obtain ⟨t, x, v, h6, _⟩ := h5; cases h6
       | _ => exact h5.elim
     · have : e = e1 ∧ S' = S1 ∧ ds' = ds1 := by
        cases e1 with
        | normal => exact absurd rfl he
        | _ => simp only [leaveD, Option.some.injEq, Prod.mk.injEq] at h; exact ⟨h.1.symm, h.2.1.symm, h.2.2.symm⟩
       obtain ⟨rfl, rfl, rfl⟩ := this
       exact ⟨hn1, hg1, hwp⟩
  · exact addD_ok hX hcl h hgl hd
 | _ => intro S ds e S' ds' h hgl hd; exact addD_ok hX hcl (by simpa only [denD] using h) hgl hd
end
abbrev Ru := FuncId → Array Value → World → (Ending → World → Prop) → Prop
def RuMono (C : Ru) : Prop := ∀ f vs w R R', C f vs w R → (∀ e w', R e w' → R' e w') → C f vs w R'
def EvC (C : Ru) (gl : List (Nat × D)) (f : FuncId) (args : List AV) (m : Mem) (K : Out → Mem → Prop) : Prop :=
 ∀ φ G w (vs : Array Value), MemRel φ G m w → GlobRel w (Fo G φ m) gl → args.length = vs.size → (∀ (i : Nat) x v, args[i]? = some x → vs[i]? = some v → AVRel φ w (Fo G φ m) x v) →
  C f vs w fun e w' => ∃ φ' m' out, K out m' ∧ MemRel φ' G m' w' ∧ Keeps φ m w φ' m' w' ∧ OutRel φ' w' (Fo G φ' m') out e
theorem EvC.frz {C : Ru} (hC : RuMono C) {gl f args} {cs : List Cont} {out : Out} {l2 : List (Nat × Cont)} (h : EvC C gl f args (inM 0 cs) fun o m => o = out ∧ m = mkM 0 l2) (hl : cs.length ≤ l2.length) :
 EvC C gl f args (inM 0 cs) fun o m => o = frzO cs.length l2 out ∧ m = mkM 0 (selL (mkM 0 l2) (List.range cs.length) (fun _ => true) (fun _ v => v) 0 (List.range cs.length)) := by
 intro φ G w vs hm hg hla ha
 refine hC _ _ _ _ _ (h φ G w vs hm hg hla ha) ?_
 rintro e w' ⟨φ', m', out', ⟨rfl, rfl⟩, hm', hk', hout⟩
 obtain ⟨s1, s2, s3⟩ := sel_mem (G1 := G) (ρ := List.range cs.length) (bor := fun _ => true) (nv := fun _ v => v) hm' List.nodup_range (fun k hk => mkM_get l2 0 k (Nat.zero_le _) (by simp at hk; omega)) (fun b h => .inl h) (fun b h => hm'.notG b h.own)
  (fun k e L b hg _ _ hL ho => hm'.notG _ ⟨e, (Mem.get_mem hg).1, L, by rw [(Mem.get_mem hg).2]; exact hL, ho⟩)
 refine ⟨_, _, _, ⟨rfl, rfl⟩, s1, ⟨?_, hk'.old, ?_, hk'.size, hk'.os, hk'.tape, hk'.output⟩, ?_⟩
 · intro k L hL
   have hk : k < cs.length := by
    have := hm.dom k L hL
    rw [inM_mk, mkM_keys] at this
    simpa using this
   obtain ⟨L', h1, h2, h3⟩ := hk'.le k L hL
   exact ⟨L', by simp [Phi.sel, hk, h1], h2, h3⟩
 · intro b hb ho
   exact hk'.own b hb ((sel_own (φ := φ') (nv := fun _ v => v) (bor := fun _ => true) (fun k hk => mkM_get l2 0 k (Nat.zero_le _) (by simp at hk; omega)) b).1 ho).own
 · cases out' with
   | ret x =>
    cases e with
    | returned v => exact (s2 x v hout).norm
    | _ => exact hout.elim
   | panic t x =>
    cases e with
    | panicked chain =>
     obtain ⟨v, hc, hx⟩ := hout
     exact ⟨v, hc, hx.mono (fun _ _ _ => rfl) (Nat.le_refl _) (fun b _ => s3 b)⟩
    | _ => exact hout.elim
theorem callOp_core {C : Ru} (hC : RuMono C) {gl : List (Nat × D)} {cl : CallFn} (hcl : ∀ g args cs out l, cl g args cs = some (out, l) → EvC C gl g args (inM 0 cs) fun o m => o = out ∧ m = mkM 0 l)
 {m : Mem} {k0 : Nat} {g : FuncId} {ys : List AV} {mt : List Nat} {res : CRes} (h : callOp cl m k0 g ys mt = some res) {φ : Phi} {G : Fr} {w : World} (hm : MemRel φ G m w) (hgl : GlobRel w (Fo G φ m) gl)
 {vs : Array Value} (hl : ys.length = vs.size) (hav : ∀ (i : Nat) x v, ys[i]? = some x → vs[i]? = some v → AVRel φ w (Fo G φ m) x v) :
 C g vs w fun e w' => ∃ φ', MemRel φ' G (putAll m res.es) w' ∧ Keeps φ m w φ' (putAll m res.es) w' ∧ OutRel φ' w' (Fo G φ' (putAll m res.es)) res.out e := by
 unfold callOp callOp2 callOp3 at h
 obtain ⟨ρ, hρ⟩ : ∃ ρ, ρ = collect m 64 (argKeys mt 0 ys) [] := ⟨_, rfl⟩
 have hcol := collect_ok m 64 (argKeys mt 0 ys) [] List.nodup_nil (by simp)
 rw [← hρ] at h hcol
 generalize (argBor mt 0 ys).filter (fun k => !ρ.contains k) = B at h
 clear hρ
 obtain ⟨hn, hall⟩ := hcol
 unfold callBack at h
 split at h
 · rename_i out l2 hcall
   split at h
   · rename_i hc
     cases h
     have hev : EvC C gl g (vwArgs (mt.contains 1000) m ρ B ys) (inM 0 (conts (selL m ρ (fun k => B.contains k) nv0 0 ρ))) fun o m => o = out ∧ m = mkM 0 l2 := by
      obtain ⟨out0, l0, h0, h1⟩ := frzR_some hcall
      have hev0 := hcl _ _ _ _ _ h0
      rcases h1 with ⟨rfl, rfl⟩ | ⟨hlt, rfl, rfl⟩
      · exact hev0
      · have hcl2 : (conts (selL m ρ (fun k => B.contains k) nv0 0 ρ)).length = ρ.length := by rw [conts_length, selL_length]
        have := hev0.frz hC (by rw [hcl2]; omega)
        rw [hcl2] at this
        exact this
     simp only [Bool.and_eq_true, Bool.or_eq_true, decide_eq_true_eq] at hc
     obtain ⟨⟨hlen, hfr⟩, hpl⟩ := hc
     rw [inM_conts] at hev
     obtain ⟨v1, v2, v3⟩ := call_view (B := B) hm hn hall
     have hav2 : ∀ (i : Nat) x v, (vwArgs (mt.contains 1000) m ρ B ys)[i]? = some x → vs[i]? = some v → AVRel (φ.sel ρ nv0) w (Fo (GCall φ G m ρ B) (φ.sel ρ nv0) (mkM 0 (selL m ρ (fun k => B.contains k) nv0 0 ρ))) x v := by
      intro i x v hx hv
      rw [vwArgs_get] at hx
      obtain ⟨y, hy, rfl⟩ := Option.map_eq_some_iff.1 hx
      exact (v2 y v (hav i y v hy hv)).nrm
     have hglob : GlobRel w (Fo (GCall φ G m ρ B) (φ.sel ρ nv0) (mkM 0 (selL m ρ (fun k => B.contains k) nv0 0 ρ))) gl :=
      hgl.mono (fun _ _ _ => rfl) (Nat.le_refl _) (fun b _ => v3 b)
     refine hC _ _ _ _ _ (hev (φ.sel ρ nv0) (GCall φ G m ρ B) w _ v1 hglob (by rw [vwArgs_length]; exact hl) hav2) ?_
     rintro e w' ⟨φ2, m2, out', ⟨rfl, rfl⟩, hm2, hk2, hout⟩
     have hBpl : B = [] ∨ (plainO out' = true ∧ plainL l2 = true) := hpl.imp (by simp) id
     obtain ⟨φ', hm', hk', hup⟩ := call_back (B := B) hm hn hall (fr := List.range' (k0 + 1) (l2.length - ρ.length)) List.nodup_range' (frOk_all hfr) hm2 hk2 (by simp; omega) (hBpl.imp id fun hp => plainL_all hp.2)
     refine ⟨φ', hm', hk', ?_⟩
     cases out' with
     | ret x =>
      cases e with
      | returned v => exact hup x v (hBpl.imp id fun hp => hp.1) hout
      | _ => exact hout.elim
     | panic t x =>
      cases e with
      | panicked chain =>
       obtain ⟨v, rfl, hx⟩ := hout
       have := hup (.d x) v (hBpl.imp id fun hp => hp.1) (.d _ _ hx)
       cases this with
       | d _ _ hd => exact ⟨v, rfl, hd⟩
      | _ => exact hout.elim
   · cases h
 · cases h
theorem wpOpsS_of {P : Program} {ops : Array Oper} {Q : Exit → Act → List Frame → World → Prop} {cs : List Frame} (hno : ∀ a w, ¬ Q .outgrown a cs w) : ∀ (l : List Nat) (a : Act) (w : World),
 wpOps P ops (fun e a w => Q e a cs w) l a w → wpOpsS P ops Q l a cs w
 | [], a, w, h => h
 | i :: rest, a, w, h => by
  have ih := wpOpsS_of (P := P) (ops := ops) hno rest
  unfold wpOps at h
  unfold wpOpsS
  split at h
  · rename_i ho; simp only [ho]; exact ih a w h
  · rename_i o ho
    simp only [ho]
    split at h
    · rename_i hw
      rw [if_pos hw]
      rcases h with h | ⟨_, a0, w0, h⟩
      · have h2 := Oper.wp_mono (K' := fun a' w' => wpOpsS P ops Q rest a' cs w') ih h
        unfold Oper.wp at h2
        split
        · rename_i w' hr
          rw [hr] at h2
          exact h2.elim
        · exact h2
      · exact absurd h (hno a0 w0)
    · rename_i hw
      rw [if_neg hw]
      exact ih _ w h
def RecOk (c0 : Frame) (cs0 : List Frame) (v : Value) (u' : FrameMode) : Prop :=
 recoverD (c0 :: cs0) = some (v, { c0 with mode := u' } :: cs0) ∨ (recoverD (c0 :: cs0) = none ∧ v = .nilIface ∧ u' = c0.mode)
theorem isRecover_some {o : Oper} (h : isRecover o = true) : o.guard = none ∧ ∃ tys, o.op = .call { callee := .builtin .recover, args := #[], argTypes := tys } := by
 unfold isRecover at h
 split at h
 · rename_i args tys hg ho
   refine ⟨hg, tys, ?_⟩
   rw [ho]
   have : args = #[] := by
    cases args with
    | mk l => cases l with
     | nil => rfl
     | cons a r => simp at h
   rw [this]
 · cases h
abbrev PostS (c0 : Frame) (cs0 : List Frame) (u' : FrameMode) (n : Nat) (φ : Phi) (G : Fr) (m : Mem) (w : World) (e : XE) (S' : St) : Exit → Act → List Frame → World → Prop :=
 fun e' a' cs' w' => cs' = { c0 with mode := u' } :: cs0 ∧ Post n φ G m w (Is e S') e' a' w'
theorem wpS_mono {P : Program} {c : Code} {Q Q' : Exit → Act → List Frame → World → Prop} {a : Act} {cs : List Frame} {w : World} (h : c.wpS P Q a cs w) (hq : ∀ e a cs w, Q e a cs w → Q' e a cs w) : c.wpS P Q' a cs w :=
 fun b k hb hr => let ⟨e, a', cs', w', q, r⟩ := h b k hb hr; ⟨e, a', cs', w', hq _ _ _ _ q, r⟩
section
variable {X : Ctx} {cl : CallFn} {f : FuncId} {n : Nat}
theorem denR_ok (hX : CtxOk X) (hcl : ClOk X cl) (rv : AV) (c : Code) : ∀ (S : St) (e : XE) (S' : St), denR X f cl n rv c S = some (e, S') → S.gl = X.gl → codeDst X f S.n c = true →
 S'.n = S.n ∧ S'.gl = S.gl ∧ ∀ φ G a w c0 cs0 v u', RecOk c0 cs0 v u' → AVRel φ w (Fo G φ S.mem) rv v → Rel φ G S a w → c.wpS X.P (PostS c0 cs0 u' S.n φ G S.mem w e S') a (c0 :: cs0) w := by
 induction c with
 | seq a b iha ihb =>
  intro S e S' h hgl hd
  simp only [codeDst, Bool.and_eq_true] at hd
  simp only [denR] at h
  rcases andThen_some h with ⟨S1, h1, h2⟩ | ⟨h1, h2⟩
  · obtain ⟨hn1, hg1, ht1⟩ := iha S .normal S1 h1 hgl hd.1
    obtain ⟨hn2, hg2, ht2⟩ := den_ok hX hcl b S1 e S' h2 (hg1.trans hgl) (by rw [hn1]; exact hd.2)
    refine ⟨hn2.trans hn1, hg2.trans hg1, fun φ G ac w c0 cs0 v u' hrec hv hr => wpS_seq (wpS_mono (ht1 φ G ac w c0 cs0 v u' hrec hv hr) ?_)⟩
    rintro e' a' cs' w' ⟨rfl, hp⟩
    obtain ⟨φ', hn', hr', hk', he⟩ := hp.is
    cases e' with
    | normal =>
     refine wpS_of_wp (wp_mono (ht2 φ' G a' w' hr') fun e2 a2 w2 hp2 => ⟨rfl, ?_⟩)
     rw [hn1] at hp2
     exact hp2.weaken hk'
    | exit id => cases he
    | ret => cases he
    | panic chain => obtain ⟨t, x, v, h6, _⟩ := he; cases h6
    | _ => exact he.elim
  · obtain ⟨hn1, hg1, ht1⟩ := iha S e S' h1 hgl hd.1
    refine ⟨hn1, hg1, fun φ G ac w c0 cs0 v u' hrec hv hr => wpS_seq (wpS_mono (ht1 φ G ac w c0 cs0 v u' hrec hv hr) ?_)⟩
    rintro e' a' cs' w' ⟨rfl, hp⟩
    cases e' with
    | normal => obtain ⟨φ', _, _, _, he⟩ := hp.is; exact absurd he h2
    | _ => exact ⟨rfl, hp⟩
 | region id ops draw =>
  intro S e S' h hgl hd
  simp only [denR] at h
  split at h
  · rename_i o r hops
    split at h
    · rename_i hrec0
      obtain ⟨hg, tys, ho⟩ := isRecover_some hrec0
      simp only [codeDst, Bool.and_eq_true] at hd
      have hdd : dstsOk S.n ops.toList = true := hd.1
      rw [hops] at hdd
      simp only [dstsOk, List.all_cons, Bool.and_eq_true] at hdd
      obtain ⟨hd0, hd1⟩ := hdd
      have hdo : ∀ t, o.dst = some t → t < S.n := fun t ht => by rw [ht] at hd0; simpa using hd0
      have hopsA : (o :: r).toArray = ops := by rw [← hops]
      have key : ∀ e1 S1, runOps X cl (X.md f id) (o :: r) r (S.put o.dst true rv) = some (e1, S1) → S1.n = S.n ∧ S1.gl = S.gl ∧ ∀ φ G a w c0 cs0 v u', RecOk c0 cs0 v u' → AVRel φ w (Fo G φ S.mem) rv v → Rel φ G S a w →
       (Code.region id ops false).wpS X.P (PostS c0 cs0 u' S.n φ G S.mem w e1 S1) a (c0 :: cs0) w := by
       intro e1 S1 h1
       obtain ⟨hn1, hg1, ht1⟩ := runOps_ok hcl r (S.put o.dst true rv) e1 S1 h1 ((put_gl ..).trans hgl) (by rw [put_n]; exact hd1)
       rw [put_n] at hn1 ht1
       rw [put_gl] at hg1
       rw [put_mem] at ht1
       refine ⟨hn1, hg1, fun φ G a w c0 cs0 v u' hrec hv hr => wpS_region ?_⟩
       have hsz : List.range ops.size = 0 :: List.range' 1 r.length := by
        rw [← hopsA]
        simp [List.range_eq_range', List.range'_succ]
       have h0 : ops[0]? = some o := by rw [← hopsA]; simp
       have hrun : (execOp a.eval o).run X.P w = .ok .recover w := by
        simp [execOp, ho, resolve, Deferred.ofValue, invoke, builtin]
       have hr1 := hr.put o.dst hdo true rv v (fun _ => hv)
       have hlist := ht1 φ G _ w hr1 (fun e a w' => PostS c0 cs0 u' S.n φ G S.mem w e1 S1 e a ({ c0 with mode := u' } :: cs0) w') (fun e' a' w' hp => ⟨rfl, hp⟩)
       rw [hopsA, ← wpOps_eq_wpList r 1 (fun j => by rw [← hopsA]; simp [Nat.add_comm])] at hlist
       have hS := wpOpsS_of (Q := PostS c0 cs0 u' S.n φ G S.mem w e1 S1) (cs := { c0 with mode := u' } :: cs0) (fun _ _ hh => hh.2) _ _ _ hlist
       rw [hsz]
       unfold wpOpsS
       simp only [h0]
       rw [if_pos (by simp [Region.wanted, hg])]
       simp only [hrun]
       rcases hrec with hrec | ⟨hrec, rfl, rfl⟩
       · rw [hrec]
         exact hS
       · rw [hrec]
         exact hS
      unfold mapN at h
      split at h
      · rename_i S1 h1
        cases h
        obtain ⟨hn1, hg1, ht1⟩ := key _ _ h1
        obtain ⟨t1, t2, t3⟩ := turn_leave X f id S1
        refine ⟨t1.trans hn1, t2.trans hg1, fun φ G a w c0 cs0 v u' hrec hv hr => wpS_mono (ht1 φ G a w c0 cs0 v u' hrec hv hr) ?_⟩
        rintro e' a' cs' w' ⟨rfl, hp⟩
        refine ⟨rfl, ?_⟩
        obtain ⟨φ', hn', hr', hk', he⟩ := hp.is
        cases e' with
        | normal =>
         obtain ⟨φ2, hr2, hk2⟩ := t3 φ' G a' w' hr'
         exact ⟨φ2, _, t1.trans hn', ⟨rfl, rfl⟩, hr2, hk'.trans hk2⟩
        | exit id => cases he
        | ret => cases he
        | panic chain => obtain ⟨t, x, v, h4, _⟩ := he; cases h4
        | _ => exact he.elim
      · exact key _ _ h
    · cases h
  · cases h
 | _ => intro S e S' h; simp [denR] at h
end
section
variable {X : Ctx} {cl : CallFn} {f : FuncId} {n : Nat}
theorem entry_ok {fn : Func} {args : List AV} {cs : List Cont} (hal : args.length ≤ fn.ntmps) (hcs : cs.length ≤ 100) (hs1 : ∀ k ∈ (X.fp f).sites, 100 ≤ k) (hs2 : (X.fp f).sites.Nodup)
 {φ : Phi} {G : Fr} {w : World} {vs : Array Value} (hdv : G.dv = []) (hm : MemRel φ G (inM 0 cs) w) (hglob : GlobRel w (Fo G φ (inM 0 cs)) X.gl) (hla : args.length = vs.size)
 (hav : ∀ (i : Nat) x v, args[i]? = some x → vs[i]? = some v → AVRel φ w (Fo G φ (inM 0 cs)) x v) :
 Rel (φ.add (X.fp f).sites) G (entry fn.ntmps X.gl args cs (X.fp f).sites) { tmps := vs ++ Array.replicate (fn.ntmps - vs.size) undef, defers := [] } w ∧
  Keeps φ (inM 0 cs) w (φ.add (X.fp f).sites) (entry fn.ntmps X.gl args cs (X.fp f).sites).mem w ∧ (∀ k L, φ k = some L → k < cs.length ∧ L.ver = 0) := by
 have hkeys : ∀ k, k ∈ (inM 0 cs).map (·.key) ↔ k < cs.length := fun k => by rw [inM_keys]; simp
 have hdis : ∀ k ∈ (X.fp f).sites, k ∉ (inM 0 cs).map (·.key) := by
  intro k hk hkm
  have h1 := hs1 k hk
  have h2 := (hkeys k).1 hkm
  omega
 have hdom : ∀ k L, φ k = some L → k < cs.length ∧ L.ver = 0 := fun k L hL => by
  have hk := hm.dom k L hL
  obtain ⟨e, he, rfl⟩ := List.mem_map.1 hk
  obtain ⟨L', hL', hver, _⟩ := hm.ents e he
  rw [hL] at hL'; cases hL'
  exact ⟨(hkeys _).1 hk, by rw [hver]; exact inM_ver cs 0 e he⟩
 have hm0 := hm.add hs2 hdis
 have hkeep0 : Keeps φ (inM 0 cs) w (φ.add (X.fp f).sites) (inM 0 cs ++ (X.fp f).sites.map dead) w := ⟨le_add hm hdis, fun _ _ _ => rfl, fun b _ ho => (own_add hdis b).1 ho, Nat.le_refl _, rfl, rfl, rfl⟩
 refine ⟨⟨by simp [entry]; omega, hdv.symm, fun t x hx => ?_, hm0, hkeep0.glob hglob⟩, hkeep0, hdom⟩
 obtain ⟨j, rfl, hj⟩ := lk_entry 0 args t _ hx
 have hjl : j < vs.size := by rw [← hla]; exact (List.getElem?_eq_some_iff.1 hj).1
 have e : (vs ++ Array.replicate (fn.ntmps - vs.size) undef).getD (0 + j) undef = vs[j] := by
  simp only [Nat.zero_add, Array.getD_eq_getD_getElem?]
  rw [Array.getElem?_append_left hjl]
  simp [hjl]
 rw [e]
 exact hkeep0.av (hav j x _ hj (by simp [hjl]))
theorem finish_ok {fn : Func} {cs : List Cont} {out : Out} {l : List (Nat × Cont)} {φ φ' : Phi} {G : Fr} {S' : St} {a' : Act} {w w' : World} (hr' : Rel φ' G S' a' w') (hk0 : Keeps φ (inM 0 cs) w φ' S'.mem w')
 (hdom : ∀ k L, φ k = some L → k < cs.length ∧ L.ver = 0) (hfin : finish X.P (X.fp f) cs.length fn.results.toList S' = some (out, l)) :
 ∃ v, (results fn a'.tmps).run X.P w' = .ok v w' ∧ ∃ φ'' m' out', (out' = out ∧ m' = mkM 0 l) ∧ MemRel φ'' G m' w' ∧ Keeps φ (inM 0 cs) w φ'' m' w' ∧ OutRel φ'' w' (Fo G φ'' m') out' (.returned v) := by
 unfold finish at hfin
 split at hfin
 · rename_i cc xs hxs
   split at hfin
   · rename_i hcc
     obtain ⟨vl, h1, h2, h3⟩ := resAll_run hr' fn.results.toList cc xs hxs hcc
     obtain ⟨φ2, ys, rfl, g1, g2, g3, g4, _⟩ := finVals_ok hfin hr'.mem hr'.glob h2 h3 hk0 hdom
     have hres : (results fn a'.tmps).run X.P w' = .ok (if h : vl.toArray.size = 1 then vl.toArray[0] else .tuple vl.toArray) w' := by
      have e : results fn a'.tmps = (do let vs ← fn.results.mapM (resSem a'.tmps); pure (if h : vs.size = 1 then vs[0] else .tuple vs)) := by
       unfold results
       congr 1
      rw [e, Array.mapM_eq_mapM_toList]
      simp only [Sem.run_bind, Sem.run_map, h1, Result.andThen_ok, Sem.run_pure]
     refine ⟨_, hres, φ2, _, _, ⟨rfl, rfl⟩, g1, g2, ?_⟩
     show AVRel φ2 w' _ (oneOf ys) _
     by_cases hone : vl.length = 1
     · obtain ⟨v, rfl⟩ : ∃ v, vl = [v] := by
        cases vl with
        | nil => simp at hone
        | cons v r => exact ⟨v, by cases r with | nil => rfl | cons _ _ => simp at hone⟩
       obtain ⟨y, rfl⟩ : ∃ y, ys = [y] := by
        cases ys with
        | nil => simp at g3
        | cons v r => exact ⟨v, by cases r with | nil => rfl | cons _ _ => simp at g3⟩
       simpa [oneOf] using g4 0 y v (by simp) (by simp)
     · have e : oneOf ys = .tup ys := by
        cases ys with
        | nil => rfl
        | cons y r => cases r with | nil => simp at g3; omega | cons _ _ => rfl
       rw [e, dif_neg (by simpa using hone)]
       exact .tup ys vl.toArray (by simpa using g3) (fun i y v h h' => g4 i y v h (by simpa using h'))
   · cases hfin
 · cases hfin
def ModeOk (u : FrameMode) (v : Value) : Prop := (v = .nilIface ∧ u = .returning) ∨ ∃ t x, v = .iface t x ∧ u = .panicking [{ v := .iface t x, recovered := false }]
def RuR (P : Program) : Ru := fun f vs w R => ∀ u v, vs.back? = some v → ModeOk u v → CallsD P f vs.pop u w fun e u' w' => settle u' = .returning ∧ R e w'
theorem ruR_mono (P : Program) : RuMono (RuR P) := fun f vs w R R' h hr u v hv hm => (h u v hv hm).mono fun e u' w' hh => ⟨hh.1, hr e w' hh.2⟩
theorem runFnR_ok (hX : CtxOk X) (hcl : ClOk X cl) {fn : Func} {c : Code} {args : List AV} {cs : List Cont} {out : Out} {l : List (Nat × Cont)} (hf : X.P.funcs[f]? = some fn) (hb : fn.body = some c)
 (h : runFnR X f cl n fn c args cs = some (out, l)) : EvC (RuR X.P) X.gl f args (inM 0 cs) fun o m => o = out ∧ m = mkM 0 l := by
 unfold runFnR at h
 split at h
 · rename_i rv hlast
   split at h
   · rename_i hc
     simp only [Bool.and_eq_true, decide_eq_true_eq, List.all_eq_true] at hc
     obtain ⟨⟨⟨hal, hcs⟩, hs1⟩, hs2⟩ := hc
     intro φ G0 w vs hm0 hglob hla hav u v hv hmode
     obtain ⟨G, hG⟩ : ∃ G : Fr, G = ⟨G0.g, []⟩ := ⟨_, rfl⟩
     have hdv : G.dv = [] := by rw [hG]
     have hm : MemRel φ G (inM 0 cs) w := by rw [hG]; exact hm0.dv []
     have hgl : GlobRel w (Fo G φ (inM 0 cs)) X.gl := by rw [hG]; exact hglob
     have hav' : ∀ (i : Nat) x v, args[i]? = some x → vs[i]? = some v → AVRel φ w (Fo G φ (inM 0 cs)) x v := by rw [hG]; exact hav
     have hne : args ≠ [] := by rintro rfl; cases hlast
     have hpos : 0 < args.length := List.length_pos_iff.2 hne
     have hla2 : args.dropLast.length = vs.pop.size := by simp; omega
     obtain ⟨e1, e2, hdom⟩ := entry_ok (fn := fn) hal hcs hs1 hs2 hdv hm hgl hla2 (fun i x v hx hv => by
      have hi : i < args.length - 1 := by have := (List.getElem?_eq_some_iff.1 hx).1; simpa using this
      refine hav' i x v ?_ ?_
      · rw [List.dropLast_eq_take, List.getElem?_take_of_lt (by omega)] at hx; exact hx
      · rw [Array.getElem?_pop] at hv
        rw [if_pos (by omega)] at hv; exact hv)
     have hrv : AVRel (φ.add (X.fp f).sites) w (Fo G (φ.add (X.fp f).sites) (entry fn.ntmps X.gl args.dropLast cs (X.fp f).sites).mem) rv v := by
      refine e2.av (hav' (args.length - 1) rv v ?_ ?_)
      · rw [← List.getLast?_eq_getElem?]; exact hlast
      · rw [Array.back?] at hv; rw [hla]; exact hv
     cases hq : denR X f cl n rv c (entry fn.ntmps X.gl args.dropLast cs (X.fp f).sites) with
     | none => rw [hq] at h; cases h
     | some p =>
      obtain ⟨e, S'⟩ := p
      rw [hq] at h
      obtain ⟨hn', hg', ht⟩ := denR_ok hX hcl rv c _ e S' hq rfl (hX.dsts f fn c hf hb)
      refine callsD_of_wpS hf hb fun c0 cs0 hu => ?_
      obtain ⟨u', hrec, hset⟩ : ∃ u', RecOk c0 cs0 v u' ∧ settle u' = .returning := by
       rcases hmode with ⟨rfl, rfl⟩ | ⟨t, x, rfl, rfl⟩
       · exact ⟨.returning, .inr ⟨by simp [recoverD, hu], rfl, hu.symm⟩, rfl⟩
       · exact ⟨.panicking [{ v := .iface t x, recovered := true }], .inl (by simp [recoverD, hu]), by simp [settle]⟩
      refine wpS_mono (ht _ G _ w c0 cs0 v u' hrec hrv e1) ?_
      rintro e' a' cs' w' ⟨rfl, hp⟩
      obtain ⟨φ', _, hr', hk', he⟩ := hp.is
      have hk0 := e2.trans hk'
      have retd : finish X.P (X.fp f) cs.length fn.results.toList S' = some (out, l) → a'.defers = [] ∧ ∃ u2, ({ c0 with mode := u' } :: cs0) = { c0 with mode := u2 } :: cs0 ∧ ∃ v, (results fn a'.tmps).run X.P w' = .ok v w' ∧ (settle u2 = .returning ∧
       ∃ φ'' m' out', (out' = out ∧ m' = mkM 0 l) ∧ MemRel φ'' G0 m' w' ∧ Keeps φ (inM 0 cs) w φ'' m' w' ∧ OutRel φ'' w' (Fo G0 φ'' m') out' (.returned v)) := by
       intro hfin
       obtain ⟨v, h1, φ2, m2, o2, h2, h3, h4, h5⟩ := finish_ok hr' hk0 hdom hfin
       subst hG
       exact ⟨hr'.defers, u', rfl, v, h1, hset, φ2, m2, o2, h2, h3.dv G0.dv, h4, h5⟩
      cases e' with
      | normal => cases he; exact retd h
      | ret => cases he; exact retd h
      | exit id => cases he; cases h
      | panic chain => obtain ⟨t, x, v, rfl, _⟩ := he; cases h
      | _ => exact he.elim
   · cases h
 · cases h
end
def ClROk (X : Ctx) (clR : CallFn) : Prop := ∀ g args cs out l, clR g args cs = some (out, l) → callable X.P g = true ∧ EvC (RuR X.P) X.gl g args (inM 0 cs) fun o m => o = out ∧ m = mkM 0 l
theorem callOp_callee {cl : CallFn} {m : Mem} {k0 : Nat} {g : FuncId} {ys : List AV} {mt : List Nat} {res : CRes} (h : callOp cl m k0 g ys mt = some res) : ∃ args cs out l, cl g args cs = some (out, l) := by
 unfold callOp callOp2 callOp3 callBack at h
 split at h
 · rename_i out l2 hcall
   obtain ⟨o0, l0, h0, _⟩ := frzR_some hcall
   exact ⟨_, _, _, _, h0⟩
 · cases h
section
variable {X : Ctx} {cl clR : CallFn} {f : FuncId} {n : Nat}
theorem runFnD_ok (hX : CtxOk X) (hcl : ClOk X cl) (hclR : ClROk X clR) {fn : Func} {c : Code} {args : List AV} {cs : List Cont} {out : Out} {l : List (Nat × Cont)} (hf : X.P.funcs[f]? = some fn) (hb : fn.body = some c)
 (h : runFnD X f cl clR n fn c args cs = some (out, l)) : Ev X.P X.gl f args (inM 0 cs) fun o m => o = out ∧ m = mkM 0 l := by
 unfold runFnD at h
 split at h
 · rename_i hc
   simp only [Bool.and_eq_true, decide_eq_true_eq, List.all_eq_true] at hc
   obtain ⟨⟨⟨hal, hcs⟩, hs1⟩, hs2⟩ := hc
   refine Ev.dv ?_
   intro φ G w vs hdv hm hglob hla hav
   obtain ⟨e1, e2, hdom⟩ := entry_ok (fn := fn) hal hcs hs1 hs2 hdv hm hglob hla hav
   obtain ⟨g, dv0⟩ := G
   simp only at hdv
   subst hdv
   cases hq : denD X f cl n c (entry fn.ntmps X.gl args cs (X.fp f).sites) [] with
   | none => rw [hq] at h; cases h
   | some p =>
    obtain ⟨e, S', ds'⟩ := p
    rw [hq] at h
    obtain ⟨hn', hg', ht⟩ := denD_ok hX hcl c _ _ e S' ds' hq rfl (hX.dsts f fn c hf hb)
    refine calls_of_wp_defers hf hb (wp_mono (ht _ g [] _ w e1 trivial) fun e' a' w' hp => ?_)
    obtain ⟨φ', dv', _, hr', hk', hdf, he⟩ := hp
    have hk0 := e2.trans hk'
    have hS'gl : S'.gl = X.gl := hg'
    have back : ∀ {φ2 : Phi} {S2 : St} {w2 : World}, Rel φ2 ⟨g, dv'⟩ S2 a' w2 → Keeps φ (inM 0 cs) w φ2 S2.mem w2 → finish X.P (X.fp f) cs.length fn.results.toList S2 = some (out, l) →
     ∃ v, (results fn a'.tmps).run X.P w2 = .ok v w2 ∧ ∃ φ'' m' out', (out' = out ∧ m' = mkM 0 l) ∧ MemRel φ'' ⟨g, []⟩ m' w2 ∧ Keeps φ (inM 0 cs) w φ'' m' w2 ∧ OutRel φ'' w2 (Fo ⟨g, []⟩ φ'' m') out' (.returned v) := by
     intro φ2 S2 w2 hr2 hk2 hfin
     obtain ⟨v, h1, φ3, m3, o3, h2, h3, h4, h5⟩ := finish_ok hr2 hk2 hdom hfin
     exact ⟨v, h1, φ3, m3, o3, h2, h3.dv [], h4, h5⟩
    match ds', dv', hdf with
    | [], [], _ =>
     have hdef : a'.defers = [] := hr'.defers
     simp only [finD] at h
     cases e' with
     | normal => cases he; show Leaves _ _ _ _ a'.defers _ _; rw [hdef]; exact back hr' hk0 h
     | ret => cases he; show Leaves _ _ _ _ a'.defers _ _; rw [hdef]; exact back hr' hk0 h
     | exit id => cases he; cases h
     | panic chain =>
      obtain ⟨t, x, v, rfl, rfl, hd⟩ := he
      have h' : finVals (X.fp f) cs.length S' [] (fun _ => .panic t x) = some (out, l) := h
      obtain ⟨φ2, ys, rfl, g1, g2, _, _, g5⟩ := finVals_ok (vs := []) h' hr'.mem hr'.glob rfl (by simp) hk0 hdom
      show Leaves _ _ _ _ a'.defers _ _
      rw [hdef]
      exact ⟨φ2, _, _, ⟨rfl, rfl⟩, g1, g2, v, rfl, hd.mono (fun _ _ _ => rfl) (Nat.le_refl _) (fun b _ => g5 b)⟩
     | _ => exact he.elim
    | [d], [dd], ⟨hd1, _⟩ =>
     have hdef : a'.defers = [dd] := hr'.defers
     simp only [finD] at h
     have one : ∀ u rv rvv, u ≠ FrameMode.run → ModeOk u rvv → AVRel φ' w' (Fo ⟨g, [dd]⟩ φ' S'.mem) rv rvv → recA e = some rv →
      Leaves X.P fn a'.tmps (fun e w' => ∃ φ' m' out', (out' = out ∧ m' = mkM 0 l) ∧ MemRel φ' ⟨g, []⟩ m' w' ∧ Keeps φ (inM 0 cs) w φ' m' w' ∧ OutRel φ' w' (Fo ⟨g, []⟩ φ' m') out' e) [dd] u w' := by
      intro u rv rvv hu hmode hrv hre
      rw [hre] at h
      simp only [finD1] at h
      cases hcall : callOp clR S'.mem 0 d.1 (d.2 ++ [rv]) (X.fp d.1).mut_ with
      | none => rw [hcall] at h; cases h
      | some res =>
       rw [hcall] at h
       obtain ⟨ca, hta, hlen, hargs⟩ := hd1
       obtain ⟨_, _, _, _, hcle⟩ := callOp_callee hcall
       have hcallable := (hclR _ _ _ _ _ hcle).1
       have hcore := callOp_core (ruR_mono X.P) (gl := X.gl) (fun g args cs out l hh => (hclR g args cs out l hh).2) hcall (φ := φ') (G := ⟨g, [dd]⟩) (w := w') (vs := (dd.args ++ ca).push rvv) hr'.mem (by rw [← hS'gl]; exact hr'.glob)
        (by simp [hlen]; omega) (fun i x v hx hv => by
         by_cases hi : i < d.2.length
         · rw [List.getElem?_append_left hi] at hx
           rw [Array.getElem?_push, if_neg (by omega)] at hv
           exact hargs i x v hx hv
         · have : i = d.2.length := by
            have := (List.getElem?_eq_some_iff.1 hx).1
            simp at this
            omega
           subst this
           rw [List.getElem?_append_right (Nat.le_refl _)] at hx
           simp at hx
           subst hx
           rw [Array.getElem?_push, if_pos hlen] at hv
           cases hv
           exact hrv)
       have hD := hcore u rvv (by simp) hmode
       rw [Array.pop_push] at hD
       refine ⟨hu, .func d.1, ca, d.1, dd.args ++ ca, hta, by rw [hta]; simp [invoke, run_callFunc hcallable], hD.mono ?_⟩
       rintro e2 u2 w2 ⟨hset, φ2, hm2, hk2, hout⟩
       unfold memC at h
       split at h
       · rename_i x es ks heq
         cases heq
         cases e2 with
         | returned v2 =>
          show Leaves _ _ _ _ [] (settle u2) w2
          rw [hset]
          exact back (hr'.turn hm2 hk2) (hk0.trans hk2) h
         | _ => exact hout.elim
       · cases h
     cases e' with
     | normal => cases he; show Leaves _ _ _ _ a'.defers _ _; rw [hdef]; exact one .returning _ .nilIface (by simp) (.inl ⟨rfl, rfl⟩) (.lit _ rfl) rfl
     | ret => cases he; show Leaves _ _ _ _ a'.defers _ _; rw [hdef]; exact one .returning _ .nilIface (by simp) (.inl ⟨rfl, rfl⟩) (.lit _ rfl) rfl
     | exit id => cases he; cases h
     | panic chain =>
      obtain ⟨t, x, v, rfl, rfl, hd⟩ := he
      show Leaves _ _ _ _ a'.defers _ _
      rw [hdef]
      exact one (.panicking [{ v := .iface t v, recovered := false }]) _ (.iface t v) (by simp) (.inr ⟨t, v, rfl, rfl⟩) (.ifc _ _ _ hd) rfl
     | _ => exact he.elim
    | _ :: _ :: _, _, _ => cases h
 · cases h
theorem recFn_ok (hX : CtxOk X) (hcl : ClOk X cl) : ClROk X (recFn X n cl) := by
 intro g args cs out l h
 unfold recFn at h
 split at h
 · rename_i fn hf
   split at h
   · rename_i c hb
     refine ⟨?_, runFnR_ok hX hcl hf hb h⟩
     unfold callable
     rw [hf]
     simp [hb, hX.names g fn hf]
   · cases h
 · cases h
theorem callN_ok (hX : CtxOk X) : ∀ n, ClOk X (callN X n)
 | 0 => fun g args cs out l h => by cases h
 | n + 1 => fun g args cs out l h => by
  have ih := callN_ok hX n
  simp only [callN, hX.ov] at h
  split at h
  · rename_i h0 hg0
    exact orc_ok hX hg0 h
  split at h
  · rename_i fn hf
    split at h
    · rename_i c hb
      have hcall : callable X.P g = true := by
       unfold callable
       rw [hf]
       simp [hb, hX.names g fn hf]
      refine ⟨hcall, ?_⟩
      cases hdf : defC c with
      | true =>
       rw [hdf] at h
       exact runFnD_ok hX ih (recFn_ok hX ih) hf hb h
      | false =>
      rw [hdf] at h
      simp only [bodyRun] at h
      unfold runSplit at h
      split at h
      · split at h
        · rename_i r
          unfold splitRun at h
          split at h
          · rename_i a b ha hb2
            split at h
            · rename_i hab
              subst hab
              have e1 := emptyVec_some ha
              have e2 := emptyVec_some hb2
              rw [e1] at h
              cases h
              exact Ev.split (runFn_ok hX ih hf hb e1) (runFn_ok hX ih hf hb e2)
            · cases h
          · cases h
        · exact runFn_ok hX ih hf hb h
      · exact runFn_ok hX ih hf hb h
    · cases h
  · cases h
end
def Mono {α : Type} (f : Nat → Option α) : Prop := ∀ n r, f n = some r → f (n + 1) = some r
theorem Mono.le {α : Type} {f : Nat → Option α} (h : Mono f) {n m : Nat} (hnm : n ≤ m) {r : α} (hr : f n = some r) : f m = some r := by
 induction hnm with
 | refl => exact hr
 | step _ ih => exact h _ _ ih
theorem Mono.const {α : Type} (x : Option α) : Mono fun _ => x := fun _ _ h => h
theorem Mono.bind {α β : Type} {f : Nat → Option α} {g : α → Nat → Option β} (hf : Mono f) (hg : ∀ x, Mono (g x)) : Mono fun n => (f n).bind fun x => g x n := by
 intro n r h
 obtain ⟨x, hx, hr⟩ := Option.bind_eq_some_iff.1 h
 simp only [hf n x hx, Option.bind_some]
 exact hg x n r hr
open Classical in
noncomputable def lim {α : Type} (f : Nat → Option α) : Option α := if h : ∃ n, (f n).isSome = true then f (Classical.choose h) else none
theorem lim_some {α : Type} {f : Nat → Option α} (hf : Mono f) {r : α} : lim f = some r ↔ ∃ n, f n = some r := by
 unfold lim
 constructor
 · intro h
   split at h
   · exact ⟨_, h⟩
   · cases h
 · rintro ⟨n, hn⟩
   have hex : ∃ n, (f n).isSome = true := ⟨n, by rw [hn]; rfl⟩
   rw [dif_pos hex]
   have hc := Classical.choose_spec hex
   obtain ⟨r', hr'⟩ := Option.isSome_iff_exists.1 hc
   rw [hr']
   rcases Nat.le_total n (Classical.choose hex) with h1 | h1
   · rw [← hr']; exact hf.le h1 hn
   · have := hf.le h1 hr'; rw [this] at hn; exact hn
theorem lim_const {α : Type} (x : Option α) : lim (fun _ => x) = x := by
 cases x with
 | some r => exact (lim_some (Mono.const _)).2 ⟨0, rfl⟩
 | none => unfold lim; rw [dif_neg]; rintro ⟨_, h⟩; cases h
theorem lim_bind {α β : Type} {f : Nat → Option α} {g : α → Nat → Option β} (hf : Mono f) (hg : ∀ x, Mono (g x)) : lim (fun n => (f n).bind fun x => g x n) = (lim f).bind fun x => lim (g x) := by
 apply Option.ext
 intro r
 rw [lim_some (hf.bind hg), Option.bind_eq_some_iff]
 constructor
 · rintro ⟨n, hn⟩
   obtain ⟨x, hx, hr⟩ := Option.bind_eq_some_iff.1 hn
   exact ⟨x, (lim_some hf).2 ⟨n, hx⟩, (lim_some (hg x)).2 ⟨n, hr⟩⟩
 · rintro ⟨x, hx, hr⟩
   obtain ⟨n, hn⟩ := (lim_some hf).1 hx
   obtain ⟨m, hm⟩ := (lim_some (hg x)).1 hr
   exact ⟨max n m, by rw [hf.le (Nat.le_max_left n m) hn]; exact (hg x).le (Nat.le_max_right n m) hm⟩
theorem lim_shift {α : Type} {f : Nat → Option α} (hf : Mono f) : lim (fun n => f (n + 1)) = lim f := by
 have hf' : Mono fun n => f (n + 1) := fun n r h => hf (n + 1) r h
 apply Option.ext
 intro r
 rw [lim_some hf', lim_some hf]
 exact ⟨fun ⟨n, h⟩ => ⟨n + 1, h⟩, fun ⟨n, h⟩ => ⟨n, hf n r h⟩⟩
def aT (k : St → Option (XE × St)) : XE × St → Option (XE × St)
 | (.normal, S) => k S
 | r => some r
theorem andThen_eq (r : Option (XE × St)) (k : St → Option (XE × St)) : andThen r k = r.bind (aT k) := by
 rcases r with _ | ⟨e, S⟩
 · rfl
 · cases e <;> rfl
def mT (k : St → St) : XE × St → Option (XE × St)
 | (.normal, S) => some (.normal, k S)
 | r => some r
theorem mapN_eq (k : St → St) (r : Option (XE × St)) : mapN k r = r.bind (mT k) := by
 rcases r with _ | ⟨e, S⟩
 · rfl
 · cases e <;> rfl
def bT (id : Nat) : XE × St → Option (XE × St)
 | (.exit id', S) => if id' = id then some (.normal, S) else some (.exit id', S)
 | r => some r
theorem inBlk_eq (id : Nat) (r : Option (XE × St)) : inBlk id r = r.bind (bT id) := by
 rcases r with _ | ⟨e, S⟩
 · rfl
 · cases e <;> rfl
def cT (m : Mem) (k0 : Nat) (ρ B : List Nat) (n0 : Nat) (b : Bool) (p : Out × List (Nat × Cont)) : Option CRes := callBack m k0 ρ B (frzR n0 b (some p))
theorem callBack_eq (m : Mem) (k0 : Nat) (ρ B : List Nat) (n0 : Nat) (b : Bool) (r : Option (Out × List (Nat × Cont))) : callBack m k0 ρ B (frzR n0 b r) = r.bind (cT m k0 ρ B n0 b) := by cases r <;> rfl
theorem putC_eq (S : St) (d : Option Nat) (r : Option CRes) : putC S d r = r.bind fun c => putC S d (some c) := by cases r <;> rfl
theorem dcall_eq (S : St) (o : Oper) (r : Option CRes) : dcall S o r = r.bind fun c => dcall S o (some c) := by cases r <;> rfl
theorem dThen_eq (acc : List Stp) (r : Option (St × Stp)) (k : St → List Stp → Option (XE × St)) : dThen acc r k = r.bind fun p => k p.1 (p.2 :: acc) := by cases r <;> rfl
theorem fin_eq (P : Program) (p : FPol) (n0 : Nat) (rs : List ResultVar) (r : Option (XE × St)) : fin P p n0 rs r = r.bind fun q => fin P p n0 rs (some q) := by cases r <;> rfl
def CMono (C : Nat → CallFn) : Prop := ∀ g a c, Mono fun k => C k g a c
section
variable {X : Ctx} {C : Nat → CallFn} {S : St} {o : Oper} {md : Bool}
theorem callOp_mono (hC : CMono C) (m : Mem) (k0 : Nat) (g : FuncId) (ys : List AV) (mt : List Nat) : Mono (fun k => callOp (C k) m k0 g ys mt) := by
 unfold callOp callOp2 callOp3
 simp only [callBack_eq]
 exact (hC _ _ _).bind fun _ => Mono.const _
theorem callVal_mono (hC : CMono C) (args : List Operand) (fv : Bool × AV) : Mono (fun k => callVal X (C k) S o args fv) := by
 unfold callVal
 split
 · split
   · exact callOp_mono hC _ _ _ _ _
   · exact Mono.const _
 · exact Mono.const _
theorem specOp_mono (hC : CMono C) : Mono (fun k => specOp X (C k) S o) := by
 unfold specOp
 split
 · rename_i fv args tys ho
   have h1 : (fun k => putC S o.dst (callVal X (C k) S o args.toList (S.opd fv))) = fun k => (callVal X (C k) S o args.toList (S.opd fv)).bind fun c => putC S o.dst (some c) := by
    funext k; exact putC_eq ..
   rw [h1]
   exact (callVal_mono hC args.toList (S.opd fv)).bind (fun _ => Mono.const _)
 · exact Mono.const _
 · exact Mono.const _
theorem stepOp_mono (hC : CMono C) (r : Res) : Mono (fun k => stepOp X (C k) S o r) := by
 cases r with
 | no => exact specOp_mono hC
 | val c x => exact Mono.const _
 | upd c x e => exact Mono.const _
theorem guardOp_mono (hC : CMono C) (b : Bool) (r : Res) : Mono (fun k => guardOp X (C k) S o b r) := by
 have other : ∀ r, Mono (fun k => if b = true then stepOp X (C k) S o r else some (.normal, S.put o.dst true .junk)) := by
  intro r
  split
  · exact stepOp_mono hC r
  · exact Mono.const _
 cases r with
 | no => exact other .no
 | val c x => exact Mono.const _
 | upd c x e => exact other (.upd c x e)
theorem gstep_mono (hC : CMono C) (all : List Oper) : Mono (fun k => gstep X (C k) md all S o) := by
 unfold gstep
 split
 · exact stepOp_mono hC _
 · split
   · split
     · exact guardOp_mono hC _ _
     · split
       · exact stepOp_mono hC _
       · exact Mono.const _
   · exact Mono.const _
   · exact Mono.const _
theorem andThen_mono {F : Nat → Option (XE × St)} {K : St → Nat → Option (XE × St)} (hF : Mono F) (hK : ∀ S, Mono (K S)) : Mono (fun n => andThen (F n) (fun S => K S n)) := by
 simp only [andThen_eq]
 refine hF.bind (g := fun x n => aT (fun S => K S n) x) fun x => ?_
 obtain ⟨e, S⟩ := x
 cases e with
 | normal => exact hK S
 | _ => exact Mono.const _
theorem runOps_mono (hC : CMono C) (all : List Oper) : ∀ (ops : List Oper) (S : St), Mono (fun k => runOps X (C k) md all ops S)
 | [], S => Mono.const _
 | o :: r, S => andThen_mono (gstep_mono hC all) (fun S' => runOps_mono hC all r S')
theorem dspec_mono (hC : CMono C) : Mono (fun k => dspec X (C k) S o) := by
 unfold dspec
 split
 · rename_i fv args tys ho
   have h1 : (fun k => dcall S o (callVal X (C k) S o args.toList (S.opd fv))) = fun k => (callVal X (C k) S o args.toList (S.opd fv)).bind fun c => dcall S o (some c) := by
    funext k; exact dcall_eq ..
   rw [h1]
   exact (callVal_mono hC args.toList (S.opd fv)).bind (fun _ => Mono.const _)
 · exact Mono.const _
theorem dstep_mono (hC : CMono C) (r : Res) : Mono (fun k => dstep X (C k) S o r) := by
 cases r with
 | no => exact dspec_mono hC
 | val c x => exact Mono.const _
 | upd c x e => exact Mono.const _
theorem dguard_mono (hC : CMono C) (b : Bool) (r : Res) : Mono (fun k => dguard X (C k) S o b r) := by
 have other : ∀ r, Mono (fun k => if b = true then dstep X (C k) S o r else some (S.put o.dst true .junk, ⟨[], [], true, .junk⟩)) := by
  intro r
  split
  · exact dstep_mono hC r
  · exact Mono.const _
 cases r with
 | no => exact other .no
 | val c x => exact Mono.const _
 | upd c x e => exact other (.upd c x e)
theorem dgstep_mono (hC : CMono C) (all : List Oper) : Mono (fun k => dgstep X (C k) md all S o) := by
 unfold dgstep
 split
 · exact dstep_mono hC _
 · split
   · split
     · exact dguard_mono hC _ _
     · split
       · exact dstep_mono hC _
       · exact Mono.const _
   · exact Mono.const _
   · exact Mono.const _
theorem panC_eq (S : St) (r : Option CRes) : panC S r = r.bind fun c => panC S (some c) := by cases r <;> rfl
theorem panO_mono (hC : CMono C) : Mono (fun k => panO X (C k) S o) := by
 unfold panO
 split
 · unfold panR
   split
   · unfold panS
     split
     · rename_i fv args tys ho
       have h1 : (fun k => panC S (callVal X (C k) S o args.toList (S.opd fv))) = fun k => (callVal X (C k) S o args.toList (S.opd fv)).bind fun c => panC S (some c) := by
        funext k; exact panC_eq ..
       rw [h1]
       exact (callVal_mono hC args.toList (S.opd fv)).bind (fun _ => Mono.const _)
     · exact Mono.const _
   · exact Mono.const _
 · exact Mono.const _
theorem panO_not {cl : CallFn} {all : List Oper} {q : St × Stp} (h : dgstep X cl md all S o = some q) : panO X cl S o = none := by
 cases hp : panO X cl S o with
 | none => rfl
 | some p =>
  obtain ⟨hg, hs, fv, args, tys, ho, hc, _⟩ := panO_some hp
  unfold dgstep at h
  rw [hg] at h
  simp only [dstep, dspec, hs, ho, hc] at h
  cases h
theorem drwO_mono (hC : CMono C) (nd : Nat × List (List Nat)) (all r : List Oper) (acc : List Stp) {K : Nat → St → List Stp → Option (XE × St)} (hK : ∀ S acc, Mono fun k => K k S acc) : Mono (fun k => drwO X (C k) md nd all r S o acc (K k) (panO X (C k) S o)) := by
 intro n y h
 simp only at h ⊢
 cases hp : panO X (C n) S o with
 | some q =>
  rw [hp] at h
  have hp' : panO X (C (n + 1)) S o = some q := panO_mono hC n q hp
  rw [hp']
  exact h
 | none =>
  rw [hp] at h
  simp only [drwO, dThen_eq] at h
  cases hg : dgstep X (C n) md all S o with
  | none => rw [hg] at h; cases h
  | some p =>
   have hg' : dgstep X (C (n + 1)) md all S o = some p := dgstep_mono hC all n p hg
   rw [panO_not hg']
   simp only [drwO, dThen_eq]
   rw [hg] at h
   rw [hg']
   exact hK _ _ n y h
theorem drwOps_mono (hC : CMono C) (nd : Nat × List (List Nat)) (all : List Oper) : ∀ (ops : List Oper) (S : St) (acc : List Stp), Mono (fun k => drwOps X (C k) md nd all ops S acc)
 | [], S, acc => Mono.const _
 | o :: r, S, acc => drwO_mono hC nd all r acc fun S acc => drwOps_mono hC nd all r S acc
def chkP (LI : List Cl) (p : St × Stp) : Option (St × Stp) := if invEs LI p.2.es = true then some p else none
theorem chkI_eq (LI : List Cl) (r : Option (St × Stp)) : chkI LI r = r.bind (chkP LI) := by
 rcases r with _ | ⟨S, p⟩ <;> rfl
theorem drwI_mono (hC : CMono C) (nd : List (List Nat)) (LI : List Cl) (all : List Oper) : ∀ (ops : List Oper) (S : St) (acc : List Stp), Mono (fun k => drwI X (C k) md nd LI all ops S acc)
 | [], S, acc => Mono.const _
 | o :: r, S, acc => by
  simp only [drwI, dThen_eq]
  cases isLast (nd.getD acc.length []) r with
  | true =>
   simp only [drwL]
   split
   · exact runOps_mono hC all [o] S
   · exact Mono.const _
  | false =>
  simp only
  cases lookI X.P LI S o with
  | some x =>
   simp only [stepI, Option.bind_some]
   exact drwI_mono hC nd LI all r _ _
  | none =>
   simp only [stepI, chkI_eq]
   exact ((dgstep_mono hC all).bind (g := fun p _ => chkP LI p) fun p => Mono.const _).bind (g := fun p n => drwI X (C n) md nd LI all r p.1 (p.2 :: acc)) fun p => drwI_mono hC nd LI all r p.1 (p.2 :: acc)
theorem drwA_mono (hC : CMono C) (nd : List (List Nat)) (all : List Oper) (S : St) (fl : List (Nat × Nat)) : Mono (fun k => drwA X (C k) md nd all S fl) := by
 cases fl with
 | nil => exact drwOps_mono hC _ all all S []
 | cons q r =>
  simp only [drwA]
  cases ents S.mem (q :: r) with
  | none => exact Mono.const _
  | some LI => exact drwI_mono hC nd LI all all S []
theorem iter_fuel (f : St → Option (XE × St)) : ∀ (j : Nat) (S : St) (r : XE × St), iter f j S = some r → iter f (j + 1) S = some r
 | 0, S, r, h => by cases h
 | j + 1, S, r, h => by
  simp only [iter] at h
  rw [iter]
  rcases andThen_some h with ⟨S1, h1, h2⟩ | ⟨h1, h2⟩
  · rw [h1]; exact iter_fuel f j S1 r h2
  · rw [h1]
    obtain ⟨e, S1⟩ := r
    cases e with
    | normal => exact absurd rfl h2
    | _ => rfl
theorem iter_fuel_le (f : St → Option (XE × St)) {j k : Nat} (h : j ≤ k) {S : St} {r : XE × St} (hr : iter f j S = some r) : iter f k S = some r := by
 induction h with
 | refl => exact hr
 | step _ ih => exact iter_fuel f _ S r ih
theorem iter_mono {F : Nat → St → Option (XE × St)} (hF : ∀ S, Mono (fun k => F k S)) : ∀ (j : Nat) (S : St), Mono (fun k => iter (F k) j S)
 | 0, S => Mono.const _
 | j + 1, S => andThen_mono (hF S) (fun S' => iter_mono hF j S')
theorem den_mono (hC : CMono C) (f : FuncId) {m : Nat → Nat} (hm : ∀ k, m k ≤ m (k + 1)) : ∀ (c : Code) (S : St), Mono (fun k => den X f (C k) (m k) c S) := by
 intro c
 induction c with
 | region id ops draw =>
  intro S
  cases draw with
  | false =>
   simp only [den, mapN_eq]
   exact (runOps_mono hC _ _ _).bind fun _ => Mono.const _
  | true =>
   simp only [den, mapN_eq]
   exact (drwA_mono hC _ _ _ _).bind fun _ => Mono.const _
 | seq a b iha ihb => intro S; exact andThen_mono (iha S) (fun S' => ihb S')
 | cond c a b iha ihb =>
  intro S
  simp only [den]
  unfold condB
  split
  · split
    · exact iha S
    · exact ihb S
  · exact Mono.const _
 | block id c ih =>
  intro S
  simp only [den, inBlk_eq]
  exact (ih S).bind fun _ => Mono.const _
 | loop c ih =>
  intro S n r h
  simp only [den] at h ⊢
  have h1 := iter_mono (F := fun k => den X f (C k) (m k) c) ih (m n) S n r h
  exact iter_fuel_le _ (hm n) h1
 | skip => intro S; exact Mono.const _
 | exit id => intro S; exact Mono.const _
 | ret => intro S; exact Mono.const _
 | rangeFunc _ _ _ _ => intro S; exact Mono.const _
 | scope _ _ => intro S; exact Mono.const _
 | label _ => intro S; exact Mono.const _
 | goto _ => intro S; exact Mono.const _
 | refuse _ => intro S; exact Mono.const _
theorem runFn_mono (hC : CMono C) (f : FuncId) {m : Nat → Nat} (hm : ∀ k, m k ≤ m (k + 1)) (fn : Func) (c : Code) (args : List AV) (cs : List Cont) : Mono (fun k => runFn X f (C k) (m k) fn c args cs) := by
 unfold runFn
 split
 · simp only [fin_eq X.P (X.fp f) cs.length fn.results.toList (den _ _ _ _ _ _)]
   exact (den_mono hC f hm c _).bind fun _ => Mono.const _
 · exact Mono.const _
theorem splitRun_mono {F G : Nat → Option (Out × List (Nat × Cont))} (hF : Mono F) (hG : Mono G) : Mono (fun n => splitRun (F n) (G n)) := by
 intro n r h
 replace h : splitRun (F n) (G n) = some r := h
 show splitRun (F (n + 1)) (G (n + 1)) = some r
 unfold splitRun at h
 split at h
 · rename_i a b ha hb
   have e1 := emptyVec_some ha
   have e2 := emptyVec_some hb
   have f1 := hF n _ e1
   have f2 := hG n _ e2
   rw [e1] at h
   rw [f1, f2]
   simp only [splitRun, emptyVec]
   exact h
 · cases h
theorem runSplit_mono {R : Nat → List AV → Option (Out × List (Nat × Cont))} (hR : ∀ a, Mono (fun n => R n a)) (args : List AV) (b : Bool) : Mono (fun n => runSplit (R n) args b) := by
 unfold runSplit
 split
 · split
   · exact splitRun_mono (hR _) (hR _)
   · exact hR _
 · exact hR _
def nT (k : St → XD) (ds : List DF) : XE × St → XD
 | (.normal, S) => k S
 | (e, S) => some (e, S, ds)
theorem nextD_eq (k : St → XD) (ds : List DF) (r : Option (XE × St)) : nextD k ds r = r.bind (nT k ds) := by
 rcases r with _ | ⟨e, S⟩
 · rfl
 · cases e <;> rfl
def lT (k : St → St) : XE × St × List DF → XD
 | (.normal, S, ds) => some (.normal, k S, ds)
 | r => some r
theorem leaveD_eq (k : St → St) (r : XD) : leaveD k r = r.bind (lT k) := by
 rcases r with _ | ⟨e, S, ds⟩
 · rfl
 · cases e <;> rfl
def dT (ds : List DF) (p : XE × St) : XD := some (p.1, p.2, ds)
theorem addD_eq (ds : List DF) (r : Option (XE × St)) : addD ds r = r.bind (dT ds) := by
 rcases r with _ | ⟨e, S⟩ <;> rfl
def sT (k : St → List DF → XD) : XE × St × List DF → XD
 | (.normal, S, ds) => k S ds
 | r => some r
theorem seqD_eq (k : St → List DF → XD) (r : XD) : seqD k r = r.bind (sT k) := by
 rcases r with _ | ⟨e, S, ds⟩
 · rfl
 · cases e <;> rfl
theorem runOpsD_mono (hC : CMono C) (all : List Oper) : ∀ (ops : List Oper) (S : St) (ds : List DF), Mono (fun k => runOpsD X (C k) md all ops S ds)
 | [], S, ds => Mono.const _
 | o :: r, S, ds => by
  simp only [runOpsD]
  cases deferOf S o with
  | some d => exact runOpsD_mono hC all r _ _
  | none =>
   simp only [nextD_eq]
   refine (gstep_mono hC all).bind (g := fun x n => nT (fun S1 => runOpsD X (C n) md all r S1 ds) ds x) fun x => ?_
   obtain ⟨e, S1⟩ := x
   cases e with
   | normal => exact runOpsD_mono hC all r S1 ds
   | _ => exact Mono.const _
theorem denD_mono (hC : CMono C) (f : FuncId) {m : Nat → Nat} (hm : ∀ k, m k ≤ m (k + 1)) : ∀ (c : Code) (S : St) (ds : List DF), Mono (fun k => denD X f (C k) (m k) c S ds) := by
 have add : ∀ (c : Code) (S : St) (ds : List DF), Mono (fun k => addD ds (den X f (C k) (m k) c S)) := fun c S ds => by
  simp only [addD_eq]
  exact (den_mono hC f hm c S).bind fun _ => Mono.const _
 intro c
 induction c with
 | seq a b iha ihb =>
  intro S ds
  simp only [denD, seqD_eq]
  refine (iha S ds).bind (g := fun x n => sT (denD X f (C n) (m n) b) x) fun x => ?_
  obtain ⟨e, S1, ds1⟩ := x
  cases e with
  | normal => exact ihb S1 ds1
  | _ => exact Mono.const _
 | region id ops draw =>
  intro S ds
  simp only [denD]
  split
  · simp only [leaveD_eq]
    exact (runOpsD_mono hC _ _ _ _).bind fun _ => Mono.const _
  · exact add _ _ _
 | _ => intro S ds; simp only [denD]; exact add _ _ _
theorem denR_mono (hC : CMono C) (f : FuncId) {m : Nat → Nat} (hm : ∀ k, m k ≤ m (k + 1)) (rv : AV) : ∀ (c : Code) (S : St), Mono (fun k => denR X f (C k) (m k) rv c S) := by
 intro c
 induction c with
 | seq a b iha ihb => intro S; exact andThen_mono (iha S) (fun S' => den_mono hC f hm b S')
 | region id ops draw =>
  intro S
  simp only [denR]
  split
  · split
    · simp only [mapN_eq]
      exact (runOps_mono hC _ _ _).bind fun _ => Mono.const _
    · exact Mono.const _
  · exact Mono.const _
 | _ => intro S; simp only [denR]; exact Mono.const _
theorem finR_eq (P : Program) (p : FPol) (n0 : Nat) (rs : List ResultVar) (r : Option (XE × St)) : finR P p n0 rs r = r.bind fun q => finR P p n0 rs (some q) := by cases r <;> rfl
theorem runFnR_mono (hC : CMono C) (f : FuncId) {m : Nat → Nat} (hm : ∀ k, m k ≤ m (k + 1)) (fn : Func) (c : Code) (args : List AV) (cs : List Cont) : Mono (fun k => runFnR X f (C k) (m k) fn c args cs) := by
 unfold runFnR
 split
 · split
   · simp only [finR_eq X.P (X.fp f) cs.length fn.results.toList (denR _ _ _ _ _ _ _)]
     exact (denR_mono hC f hm _ c _).bind fun _ => Mono.const _
   · exact Mono.const _
 · exact Mono.const _
theorem recFn_mono (hC : CMono C) {m : Nat → Nat} (hm : ∀ k, m k ≤ m (k + 1)) : CMono (fun k => recFn X (m k) (C k)) := by
 intro g args cs
 simp only [recFn]
 split
 · split
   · exact runFnR_mono hC g hm _ _ _ _
   · exact Mono.const _
 · exact Mono.const _
theorem memC_eq (S : St) (r : Option CRes) : memC S r = r.bind fun c => memC S (some c) := by cases r <;> rfl
theorem finM_eq (X : Ctx) (p : FPol) (n0 : Nat) (rs : List ResultVar) (r : Option St) : finM X p n0 rs r = r.bind fun S => finish X.P p n0 rs S := by cases r <;> rfl
theorem finD_eq (X : Ctx) (p : FPol) (n0 : Nat) (rs : List ResultVar) (clR : CallFn) (r : XD) : finD X p n0 rs clR r = r.bind fun q => finD X p n0 rs clR (some q) := by cases r <;> rfl
theorem finD1_mono {CR : Nat → CallFn} (hC : CMono CR) (p : FPol) (n0 : Nat) (rs : List ResultVar) (S : St) (d : DF) (rv : Option AV) : Mono (fun k => finD1 X p n0 rs (CR k) S d rv) := by
 cases rv with
 | none => exact Mono.const _
 | some rv =>
  simp only [finD1, finM_eq, memC_eq S (callOp _ _ _ _ _ _)]
  exact ((callOp_mono hC _ _ _ _ _).bind (g := fun c _ => memC S (some c)) fun _ => Mono.const _).bind (g := fun S _ => finish X.P p n0 rs S) fun _ => Mono.const _
theorem finDs_mono {CR : Nat → CallFn} (hC : CMono CR) (p : FPol) (n0 : Nat) (rs : List ResultVar) (q : XE × St × List DF) : Mono (fun k => finD X p n0 rs (CR k) (some q)) := by
 obtain ⟨e, S, ds⟩ := q
 match ds with
 | [] => exact Mono.const _
 | [d] => exact finD1_mono hC p n0 rs S d (recA e)
 | _ :: _ :: _ => exact Mono.const _
theorem runFnD_mono (hC : CMono C) {CR : Nat → CallFn} (hR : CMono CR) (f : FuncId) {m : Nat → Nat} (hm : ∀ k, m k ≤ m (k + 1)) (fn : Func) (c : Code) (args : List AV) (cs : List Cont) : Mono (fun k => runFnD X f (C k) (CR k) (m k) fn c args cs) := by
 unfold runFnD
 split
 · simp only [finD_eq X (X.fp f) cs.length fn.results.toList _ (denD _ _ _ _ _ _ _)]
   exact (denD_mono hC f hm c _ _).bind (g := fun q n => finD X (X.fp f) cs.length fn.results.toList (CR n) (some q)) fun q => finDs_mono hR _ _ _ q
 · exact Mono.const _
theorem callN_mono (X : Ctx) : ∀ n g a c r, callN X n g a c = some r → callN X (n + 1) g a c = some r
 | 0, g, a, c, r, h => by cases h
 | n + 1, g, a, c, r, h => by
  have ih := callN_mono X n
  have hC : CMono fun k => if k = 0 then callN X n else callN X (n + 1) := by
   intro g a c k r h
   by_cases hk : k = 0
   · subst hk; exact ih g a c r h
   · simp only [hk, if_false] at h; simpa using h
  have hm : ∀ k, (if k = 0 then n else n + 1) ≤ (if k + 1 = 0 then n else n + 1) := by
   intro k
   by_cases hk : k = 0 <;> simp [hk]
  cases hov : X.ov with
  | some c0 => simp only [callN, hov] at h ⊢; exact h
  | none =>
  cases hor : X.orc g with
  | some h0 => simp only [callN, hov, hor] at h ⊢; exact h
  | none =>
  cases hf : X.P.funcs[g]? with
  | none => simp only [callN, hov, hor, hf] at h; cases h
  | some fn =>
   cases hb : fn.body with
   | none => simp only [callN, hov, hor, hf, hb] at h; cases h
   | some code =>
    have e1 : ∀ k, callN X (k + 1) g a c = bodyRun X g (callN X k) k fn code a c (defC code) := by
     intro k; simp only [callN, hov, hor, hf, hb]
    rw [e1] at h ⊢
    cases hdf : defC code with
    | true =>
     rw [hdf] at h
     exact runFnD_mono (X := X) (C := fun k => if k = 0 then callN X n else callN X (n + 1)) (CR := fun k => recFn X (if k = 0 then n else n + 1) (if k = 0 then callN X n else callN X (n + 1))) hC (recFn_mono hC hm) g hm fn code a c 0 r h
    | false =>
    rw [hdf] at h
    exact runSplit_mono (R := fun k args => runFn X g ((fun k => if k = 0 then callN X n else callN X (n + 1)) k) ((fun k => if k = 0 then n else n + 1) k) fn code args c) (fun args => runFn_mono hC g hm fn code args c) a _ 0 r h
theorem callN_cmono (X : Ctx) : CMono (callN X) := fun g a c n r h => callN_mono X n g a c r h
end
noncomputable def callT (X : Ctx) : CallFn := fun g a c => lim fun k => callN X k g a c
noncomputable def denT (X : Ctx) (f : FuncId) (c : Code) (S : St) : Option (XE × St) := lim fun k => den X f (callN X k) k c S
theorem callT_of {X : Ctx} {g a c r} (n : Nat) (h : callN X n g a c = some r) : callT X g a c = some r := (lim_some (callN_cmono X g a c)).2 ⟨n, h⟩
theorem callT_ok {X : Ctx} (hX : CtxOk X) : ClOk X (callT X) := fun g args cs out l h => by
 obtain ⟨n, hn⟩ := (lim_some (callN_cmono X g args cs)).1 h
 exact callN_ok hX n g args cs out l hn
section
variable {X : Ctx} {S : St} {o : Oper} {f : FuncId} {md : Bool}
theorem dm (c : Code) (S : St) : Mono (fun k => den X f (callN X k) k c S) := den_mono (callN_cmono X) f (m := fun k => k) (fun k => Nat.le_succ k) c S
theorem callOp_lim (m : Mem) (k0 : Nat) (g : FuncId) (ys : List AV) (mt : List Nat) : lim (fun k => callOp (callN X k) m k0 g ys mt) = callOp (callT X) m k0 g ys mt := by
 unfold callOp callOp2 callOp3
 simp only [callBack_eq]
 rw [lim_bind (callN_cmono X _ _ _) (fun _ => Mono.const _)]
 simp only [lim_const]
 rfl
theorem callVal_lim (args : List Operand) (fv : Bool × AV) : lim (fun k => callVal X (callN X k) S o args fv) = callVal X (callT X) S o args fv := by
 unfold callVal
 split
 · split
   · exact callOp_lim ..
   · exact lim_const _
 · exact lim_const _
theorem specOp_lim : lim (fun k => specOp X (callN X k) S o) = specOp X (callT X) S o := by
 unfold specOp
 split
 · rename_i fv args tys ho
   have h1 : (fun k => putC S o.dst (callVal X (callN X k) S o args.toList (S.opd fv))) = fun k => (callVal X (callN X k) S o args.toList (S.opd fv)).bind fun c => putC S o.dst (some c) := by
    funext k; exact putC_eq ..
   rw [h1, lim_bind (callVal_mono (callN_cmono X) _ _) (fun _ => Mono.const _), callVal_lim, putC_eq]
   simp only [lim_const]
 · exact lim_const _
 · exact lim_const _
theorem stepOp_lim (r : Res) : lim (fun k => stepOp X (callN X k) S o r) = stepOp X (callT X) S o r := by
 cases r with
 | no => exact specOp_lim
 | val c x => exact lim_const _
 | upd c x e => exact lim_const _
theorem guardOp_lim (b : Bool) (r : Res) : lim (fun k => guardOp X (callN X k) S o b r) = guardOp X (callT X) S o b r := by
 have other : ∀ r, lim (fun k => if b = true then stepOp X (callN X k) S o r else some (.normal, S.put o.dst true .junk)) = if b = true then stepOp X (callT X) S o r else some (.normal, S.put o.dst true .junk) := by
  intro r
  split
  · exact stepOp_lim r
  · exact lim_const _
 cases r with
 | no => exact other .no
 | val c x => exact lim_const _
 | upd c x e => exact other (.upd c x e)
theorem gstep_lim (all : List Oper) : lim (fun k => gstep X (callN X k) md all S o) = gstep X (callT X) md all S o := by
 unfold gstep
 split
 · exact stepOp_lim _
 · split
   · split
     · exact guardOp_lim _ _
     · split
       · exact stepOp_lim _
       · exact lim_const _
   · exact lim_const _
   · exact lim_const _
theorem andThen_lim {F : Nat → Option (XE × St)} {K : St → Nat → Option (XE × St)} (hF : Mono F) (hK : ∀ S, Mono (K S)) : lim (fun n => andThen (F n) (fun S => K S n)) = andThen (lim F) (fun S => lim (K S)) := by
 simp only [andThen_eq]
 rw [lim_bind (g := fun x n => aT (fun S => K S n) x) hF (fun x => by
  obtain ⟨e, S⟩ := x
  cases e with
  | normal => exact hK S
  | _ => exact Mono.const _)]
 congr 1
 funext x
 obtain ⟨e, S⟩ := x
 cases e <;> first | rfl | exact lim_const _
theorem runOps_lim (all : List Oper) : ∀ (ops : List Oper) (S : St), lim (fun k => runOps X (callN X k) md all ops S) = runOps X (callT X) md all ops S
 | [], S => lim_const _
 | o :: r, S => by
  simp only [runOps]
  have := andThen_lim (F := fun k => gstep X (callN X k) md all S o) (K := fun S' k => runOps X (callN X k) md all r S') (gstep_mono (callN_cmono X) all) (fun S' => runOps_mono (callN_cmono X) all r S')
  rw [gstep_lim] at this
  simp only [runOps_lim all r] at this
  exact this
theorem dspec_lim : lim (fun k => dspec X (callN X k) S o) = dspec X (callT X) S o := by
 unfold dspec
 split
 · rename_i fv args tys ho
   have h1 : (fun k => dcall S o (callVal X (callN X k) S o args.toList (S.opd fv))) = fun k => (callVal X (callN X k) S o args.toList (S.opd fv)).bind fun c => dcall S o (some c) := by
    funext k; exact dcall_eq ..
   rw [h1, lim_bind (callVal_mono (callN_cmono X) _ _) (fun _ => Mono.const _), callVal_lim, dcall_eq]
   simp only [lim_const]
 · exact lim_const _
theorem dstep_lim (r : Res) : lim (fun k => dstep X (callN X k) S o r) = dstep X (callT X) S o r := by
 cases r with
 | no => exact dspec_lim
 | val c x => exact lim_const _
 | upd c x e => exact lim_const _
theorem dguard_lim (b : Bool) (r : Res) : lim (fun k => dguard X (callN X k) S o b r) = dguard X (callT X) S o b r := by
 have other : ∀ r, lim (fun k => if b = true then dstep X (callN X k) S o r else some (S.put o.dst true .junk, (⟨[], [], true, .junk⟩ : Stp))) = if b = true then dstep X (callT X) S o r else some (S.put o.dst true .junk, ⟨[], [], true, .junk⟩) := by
  intro r
  split
  · exact dstep_lim r
  · exact lim_const _
 cases r with
 | no => exact other .no
 | val c x => exact lim_const _
 | upd c x e => exact other (.upd c x e)
theorem dgstep_lim (all : List Oper) : lim (fun k => dgstep X (callN X k) md all S o) = dgstep X (callT X) md all S o := by
 unfold dgstep
 split
 · exact dstep_lim _
 · split
   · split
     · exact dguard_lim _ _
     · split
       · exact dstep_lim _
       · exact lim_const _
   · exact lim_const _
   · exact lim_const _
theorem panO_lim : lim (fun k => panO X (callN X k) S o) = panO X (callT X) S o := by
 unfold panO
 split
 · unfold panR
   split
   · unfold panS
     split
     · rename_i fv args tys ho
       have h1 : (fun k => panC S (callVal X (callN X k) S o args.toList (S.opd fv))) = fun k => (callVal X (callN X k) S o args.toList (S.opd fv)).bind fun c => panC S (some c) := by
        funext k; exact panC_eq ..
       rw [h1, lim_bind (callVal_mono (callN_cmono X) _ _) (fun _ => Mono.const _), callVal_lim, panC_eq]
       simp only [lim_const]
     · exact lim_const _
   · exact lim_const _
 · exact lim_const _
theorem drwOps_lim (nd : Nat × List (List Nat)) (all : List Oper) : ∀ (ops : List Oper) (S : St) (acc : List Stp), lim (fun k => drwOps X (callN X k) md nd all ops S acc) = drwOps X (callT X) md nd all ops S acc
 | [], S, acc => lim_const _
 | o :: r, S, acc => by
  have hp : ∀ q, panO X (callT X) S o = some q ↔ ∃ k, panO X (callN X k) S o = some q := fun q => by rw [← panO_lim]; exact lim_some (panO_mono (callN_cmono X))
  have hg : ∀ q, dgstep X (callT X) md all S o = some q ↔ ∃ k, dgstep X (callN X k) md all S o = some q := fun q => by rw [← dgstep_lim]; exact lim_some (dgstep_mono (callN_cmono X) all)
  have hr : ∀ S acc y, drwOps X (callT X) md nd all r S acc = some y ↔ ∃ k, drwOps X (callN X k) md nd all r S acc = some y := fun S acc y => by rw [← drwOps_lim nd all r S acc]; exact lim_some (drwOps_mono (callN_cmono X) nd all r S acc)
  apply Option.ext
  intro y
  rw [lim_some (drwOps_mono (callN_cmono X) nd all (o :: r) S acc)]
  simp only [drwOps]
  constructor
  · rintro ⟨k, hk⟩
    cases hpk : panO X (callN X k) S o with
    | some q =>
     rw [hpk] at hk
     rw [(hp q).2 ⟨k, hpk⟩]
     exact hk
    | none =>
     rw [hpk] at hk
     simp only [drwO, dThen_eq] at hk
     cases hgk : dgstep X (callN X k) md all S o with
     | none => rw [hgk] at hk; cases hk
     | some p =>
      rw [hgk] at hk
      have hgT := (hg p).2 ⟨k, hgk⟩
      rw [panO_not hgT]
      simp only [drwO, dThen_eq, hgT, Option.bind_some] at hk ⊢
      exact (hr _ _ y).2 ⟨k, hk⟩
  · intro h
    cases hpT : panO X (callT X) S o with
    | some q =>
     rw [hpT] at h
     obtain ⟨k, hk⟩ := (hp q).1 hpT
     exact ⟨k, by rw [hk]; exact h⟩
    | none =>
     rw [hpT] at h
     simp only [drwO, dThen_eq] at h
     cases hgT : dgstep X (callT X) md all S o with
     | none => rw [hgT] at h; cases h
     | some p =>
      rw [hgT] at h
      simp only [Option.bind_some] at h
      obtain ⟨k1, hk1⟩ := (hg p).1 hgT
      obtain ⟨k2, hk2⟩ := (hr _ _ y).1 h
      refine ⟨max k1 k2, ?_⟩
      have hg2 := (dgstep_mono (X := X) (S := S) (o := o) (md := md) (callN_cmono X) all).le (Nat.le_max_left k1 k2) hk1
      have hr2 := (drwOps_mono (X := X) (md := md) (callN_cmono X) nd all r p.1 (p.2 :: acc)).le (Nat.le_max_right k1 k2) hk2
      rw [panO_not hg2]
      simp only [drwO, dThen_eq, hg2, Option.bind_some]
      exact hr2
theorem drwI_lim (nd : List (List Nat)) (LI : List Cl) (all : List Oper) : ∀ (ops : List Oper) (S : St) (acc : List Stp), lim (fun k => drwI X (callN X k) md nd LI all ops S acc) = drwI X (callT X) md nd LI all ops S acc
 | [], S, acc => lim_const _
 | o :: r, S, acc => by
  simp only [drwI, dThen_eq]
  cases isLast (nd.getD acc.length []) r with
  | true =>
   simp only [drwL]
   split
   · exact runOps_lim all [o] S
   · exact lim_const _
  | false =>
  simp only
  cases lookI X.P LI S o with
  | some x =>
   simp only [stepI, Option.bind_some]
   exact drwI_lim nd LI all r _ _
  | none =>
   simp only [stepI, chkI_eq]
   rw [lim_bind (g := fun p n => drwI X (callN X n) md nd LI all r p.1 (p.2 :: acc)) ((dgstep_mono (callN_cmono X) all).bind (g := fun p _ => chkP LI p) fun p => Mono.const _) (fun p => drwI_mono (callN_cmono X) nd LI all r p.1 (p.2 :: acc)),
    lim_bind (g := fun p _ => chkP LI p) (dgstep_mono (callN_cmono X) all) (fun p => Mono.const _), dgstep_lim]
   simp only [drwI_lim nd LI all r, lim_const]
theorem drwA_lim (nd : List (List Nat)) (all : List Oper) (S : St) (fl : List (Nat × Nat)) : lim (fun k => drwA X (callN X k) md nd all S fl) = drwA X (callT X) md nd all S fl := by
 cases fl with
 | nil => exact drwOps_lim _ all all S []
 | cons q r =>
  simp only [drwA]
  cases ents S.mem (q :: r) with
  | none => exact lim_const _
  | some LI => exact drwI_lim nd LI all all S []
theorem denT_skip : denT X f .skip S = some (.normal, S) := lim_const _
theorem denT_exit {id : Nat} : denT X f (.exit id) S = some (.exit id, ghs S (X.gh f (id + 1000000))) := lim_const _
theorem denT_ret : denT X f .ret S = some (.ret, S) := lim_const _
theorem denT_seq {a b : Code} : denT X f (.seq a b) S = andThen (denT X f a S) (denT X f b) := andThen_lim (dm a S) (fun S' => dm b S')
theorem denT_cond {c : Operand} {a b : Code} : denT X f (.cond c a b) S = condB (denT X f a S) (denT X f b S) (S.opd c) := by
 unfold denT
 simp only [den]
 unfold condB
 split
 · split <;> rfl
 · exact lim_const _
theorem denT_block {id : Nat} {c : Code} : denT X f (.block id c) S = inBlk id (denT X f c S) := by
 unfold denT
 simp only [den, inBlk_eq]
 rw [lim_bind (dm c S) (fun _ => Mono.const _)]
 simp only [lim_const]
theorem denT_region {id : Nat} {ops : Array Oper} : denT X f (.region id ops false) S = mapN (St.leave X f id) (runOps X (callT X) (X.md f id) ops.toList ops.toList S) := by
 unfold denT
 simp only [den, mapN_eq]
 rw [lim_bind (runOps_mono (callN_cmono X) _ _ _) (fun _ => Mono.const _), runOps_lim]
 simp only [lim_const]
theorem denT_draw {id : Nat} {ops : Array Oper} : denT X f (.region id ops true) S = mapN (St.leave X f id) (drwA X (callT X) (X.md f id) (X.od f id) ops.toList S (X.fl f id)) := by
 unfold denT
 simp only [den, mapN_eq]
 rw [lim_bind (drwA_mono (callN_cmono X) _ _ _ _) (fun _ => Mono.const _), drwA_lim]
 simp only [lim_const]
theorem denT_loop {c : Code} : denT X f (.loop c) S = andThen (denT X f c S) (denT X f (.loop c)) := by
 apply Option.ext
 intro r
 have hl : ∀ S r, denT X f (.loop c) S = some r ↔ ∃ k, iter (den X f (callN X k) k c) k S = some r := fun S r => lim_some (dm (.loop c) S)
 have hi : ∀ {k j i : Nat} {S r}, k ≤ j → i ≤ j → iter (den X f (callN X k) k c) i S = some r → iter (den X f (callN X j) j c) j S = some r := by
  intro k j i S r hk hij h
  exact iter_fuel_le _ hij ((iter_mono (F := fun k => den X f (callN X k) k c) (fun S => dm c S) i S).le hk h)
 rw [hl]
 constructor
 · rintro ⟨k, hk⟩
   cases k with
   | zero => cases hk
   | succ k =>
    simp only [iter] at hk
    rcases andThen_some hk with ⟨S1, h1, h2⟩ | ⟨h1, h2⟩
    · have : denT X f c S = some (.normal, S1) := (lim_some (dm c S)).2 ⟨k + 1, h1⟩
      rw [this]
      exact (hl S1 r).2 ⟨k + 1, hi (Nat.le_refl _) (Nat.le_succ k) h2⟩
    · have : denT X f c S = some r := (lim_some (dm c S)).2 ⟨k + 1, h1⟩
      rw [this]
      obtain ⟨e, S1⟩ := r
      cases e with
      | normal => exact absurd rfl h2
      | _ => rfl
 · intro h
   rcases andThen_some h with ⟨S1, h1, h2⟩ | ⟨h1, h2⟩
   · obtain ⟨k, hk⟩ := (lim_some (dm c S)).1 h1
     obtain ⟨j, hj⟩ := (hl S1 r).1 h2
     refine ⟨max k j + 1, ?_⟩
     rw [iter, (dm c S).le (show k ≤ max k j + 1 by omega) hk]
     have := (iter_mono (F := fun k => den X f (callN X k) k c) (fun S => dm c S) j S1).le (show j ≤ max k j + 1 by omega) hj
     exact iter_fuel_le _ (show j ≤ max k j by omega) this
   · obtain ⟨k, hk⟩ := (lim_some (dm c S)).1 h1
     refine ⟨k + 1, ?_⟩
     rw [iter, (dm c S).le (Nat.le_succ k) hk]
     obtain ⟨e, S1⟩ := r
     cases e with
     | normal => exact absurd rfl h2
     | _ => rfl
noncomputable def runFnT (X : Ctx) (f : FuncId) (fn : Func) (c : Code) (cs : List Cont) (args : List AV) : Option (Out × List (Nat × Cont)) :=
 if (decide (args.length ≤ fn.ntmps) && decide (cs.length ≤ 100) && (X.fp f).sites.all (fun k => decide (100 ≤ k)) && decide (X.fp f).sites.Nodup) = true then
  fin X.P (X.fp f) cs.length fn.results.toList (denT X f c (entry fn.ntmps X.gl args cs (X.fp f).sites))
 else none
theorem callT_orc {h : List AV → Option AV} {args : List AV} {cs : List Cont} (hov : X.ov = none) (hor : X.orc f = some h) : callT X f args cs = orcAns h args cs := by
 unfold callT
 rw [← lim_shift (callN_cmono X f args cs)]
 have : (fun n => callN X (n + 1) f args cs) = fun _ => orcAns h args cs := by funext n; simp only [callN, hov, hor]
 rw [this, lim_const]
theorem callT_eq {fn : Func} {c : Code} {args : List AV} {cs : List Cont} (hov : X.ov = none) (hor : X.orc f = none) (hf : X.P.funcs[f]? = some fn) (hb : fn.body = some c) (hdf : defC c = false) :
 callT X f args cs = runSplit (runFnT X f fn c cs) args (X.fp f).split := by
 have hm : ∀ args, Mono (fun k => runFn X f (callN X k) k fn c args cs) := fun args => runFn_mono (callN_cmono X) f (m := fun k => k) (fun k => Nat.le_succ k) fn c args cs
 have hr : ∀ args, lim (fun k => runFn X f (callN X k) k fn c args cs) = runFnT X f fn c cs args := by
  intro args
  unfold runFn runFnT
  split
  · rename_i h
    have h1 : (fun k => fin X.P (X.fp f) cs.length fn.results.toList (den X f (callN X k) k c (entry fn.ntmps X.gl args cs (X.fp f).sites))) = fun k => (den X f (callN X k) k c (entry fn.ntmps X.gl args cs (X.fp f).sites)).bind fun q => fin X.P (X.fp f) cs.length fn.results.toList (some q) := by
     funext k; exact fin_eq ..
    rw [h1, lim_bind (dm c _) (fun _ => Mono.const _), fin_eq]
    simp only [lim_const]
    rfl
  · exact lim_const _
 have e1 : callT X f args cs = lim (fun k => runSplit (fun args => runFn X f (callN X k) k fn c args cs) args (X.fp f).split) := by
  unfold callT
  rw [← lim_shift (callN_cmono X f args cs)]
  congr 1
  funext k
  rw [callN, hov, hor, hf]
  simp only [hb, hdf, bodyRun]
 rw [e1]
 unfold runSplit
 split
 · split
   · rename_i r
     apply Option.ext
     intro y
     rw [lim_some (splitRun_mono (hm _) (hm _)), ← hr, ← hr]
     constructor
     · rintro ⟨n, hn⟩
       unfold splitRun at hn ⊢
       split at hn
       · rename_i a b ha hb2
         have f1 := (lim_some (hm _)).2 ⟨n, emptyVec_some ha⟩
         have f2 := (lim_some (hm _)).2 ⟨n, emptyVec_some hb2⟩
         rw [f1, f2]
         rw [emptyVec_some ha] at hn
         exact hn
       · cases hn
     · intro h
       unfold splitRun at h
       split at h
       · rename_i a b ha hb2
         obtain ⟨n, hn⟩ := (lim_some (hm _)).1 (emptyVec_some ha)
         obtain ⟨m, hm2⟩ := (lim_some (hm _)).1 (emptyVec_some hb2)
         refine ⟨max n m, ?_⟩
         rw [(hm _).le (Nat.le_max_left n m) hn, (hm _).le (Nat.le_max_right n m) hm2]
         rw [emptyVec_some ha] at h
         exact h
       · cases h
   · exact hr _
 · exact hr _
end
abbrev Ans := Option (Out × List (Nat × Cont))
abbrev Kt := XE → St → Ans
noncomputable def denK (X : Ctx) (f : FuncId) (c : Code) (S : St) (k : Kt) : Ans := (denT X f c S).bind fun p => k p.1 p.2
noncomputable def runK (X : Ctx) (md : Bool) (all ops : List Oper) (S : St) (k : Kt) : Ans := (runOps X (callT X) md all ops S).bind fun p => k p.1 p.2
noncomputable def drwK (X : Ctx) (md : Bool) (nd : Nat × List (List Nat)) (all ops : List Oper) (S : St) (acc : List Stp) (k : Kt) : Ans := (drwOps X (callT X) md nd all ops S acc).bind fun p => k p.1 p.2
noncomputable def seqK (X : Ctx) (f : FuncId) (b : Code) (k : Kt) : Kt
 | .normal, S => denK X f b S k
 | e, S => k e S
def blkK (id : Nat) (k : Kt) : Kt
 | .exit id', S => if id' = id then k .normal S else k (.exit id') S
 | e, S => k e S
noncomputable def loopK (X : Ctx) (f : FuncId) (c : Code) (k : Kt) : Kt
 | .normal, S => denK X f (.loop c) S k
 | e, S => k e S
def leaveK (X : Ctx) (f : FuncId) (id : Nat) (k : Kt) : Kt
 | .normal, S => k .normal (S.leave X f id)
 | e, S => k e S
def finK (P : Program) (p : FPol) (n0 : Nat) (rs : List ResultVar) : Kt
 | .normal, S => finish P p n0 rs S
 | .ret, S => finish P p n0 rs S
 | .panic t x, S => finPanic p n0 t x S
 | .exit _, _ => none
def isB : Bool × AV → Bool
 | (true, .d (.bool _)) => true
 | _ => false
def boolOf : Bool × AV → Bool
 | (_, .d (.bool b)) => b
 | _ => false
def Env.kn : Env → Nat → Bool → Env
 | [], _, _ => []
 | (t, x) :: r, c, b => if t = c then (t, true, .d (.bool b)) :: r else (t, x) :: Env.kn r c b
def St.kn (S : St) (c : Nat) (b : Bool) : St := { S with env := Env.kn S.env c b }
section
variable {X : Ctx} {f : FuncId} {S : St} {k : Kt}
theorem andThen_bind (r : Option (XE × St)) (g : St → Option (XE × St)) : (andThen r g).bind (fun p => k p.1 p.2) = r.bind fun p => match p with
 | (.normal, S) => (g S).bind fun p => k p.1 p.2
 | (e, S) => k e S := by
 rcases r with _ | ⟨e, S⟩
 · rfl
 · cases e <;> rfl
theorem denK_skip : denK X f .skip S k = k .normal S := by simp only [denK, denT_skip, Option.bind_some]
theorem denK_exit {id : Nat} : denK X f (.exit id) S k = k (.exit id) (ghs S (X.gh f (id + 1000000))) := by simp only [denK, denT_exit, Option.bind_some]
theorem denK_ret : denK X f .ret S k = k .ret S := by simp only [denK, denT_ret, Option.bind_some]
theorem denK_seq {a b : Code} : denK X f (.seq a b) S k = denK X f a S (seqK X f b k) := by
 simp only [denK, denT_seq, andThen_bind]
 congr 1
 funext p
 obtain ⟨e, S⟩ := p
 cases e <;> rfl
theorem denK_loop {c : Code} : denK X f (.loop c) S k = denK X f c S (loopK X f c k) := by
 rw [denK, denT_loop, andThen_bind, denK]
 congr 1
 funext p
 obtain ⟨e, S⟩ := p
 cases e <;> rfl
theorem denK_block {id : Nat} {c : Code} : denK X f (.block id c) S k = denK X f c S (blkK id k) := by
 simp only [denK, denT_block]
 rcases denT X f c S with _ | ⟨e, S⟩
 · rfl
 · cases e with
   | exit id' =>
    simp only [inBlk, Option.bind_some, blkK]
    split <;> rfl
   | _ => rfl
theorem denK_cond {c : Operand} {a b : Code} : denK X f (.cond c a b) S k = if isB (S.opd c) = true then (if boolOf (S.opd c) = true then denK X f a S k else denK X f b S k) else none := by
 simp only [denK, denT_cond]
 generalize S.opd c = v
 obtain ⟨g, x⟩ := v
 cases g with
 | false => rfl
 | true =>
  cases x with
  | d x =>
   cases x with
   | bool t => cases t <;> rfl
   | _ => rfl
  | _ => rfl
theorem kn_eq {b : Bool} : ∀ {env : Env} {c : Nat}, Env.lk env c = some (true, .d (.bool b)) → Env.kn env c b = env
 | [], c, h => by cases h
 | (t, x) :: r, c, h => by
  simp only [Env.lk] at h
  simp only [Env.kn]
  split
  · rename_i ht
    rw [if_pos ht] at h
    cases h; rfl
  · rename_i ht
    rw [if_neg ht] at h
    rw [kn_eq h]
theorem opd_lk {c : Tmp} {b : Bool} (h : S.opd (.tmp c) = (true, .d (.bool b))) : Env.lk S.env c = some (true, .d (.bool b)) := by
 simp only [St.opd] at h
 cases hl : Env.lk S.env c with
 | none => rw [hl] at h; simp at h
 | some x => rw [hl] at h; simp only [Option.getD_some] at h; rw [h]
theorem denK_condT {c : Tmp} {a b : Code} : denK X f (.cond (.tmp c) a b) S k = if isB (S.opd (.tmp c)) = true then (if boolOf (S.opd (.tmp c)) = true then denK X f a (S.kn c true) k else denK X f b (S.kn c false) k) else none := by
 rw [denK_cond]
 generalize hv : S.opd (.tmp c) = v
 obtain ⟨g, x⟩ := v
 cases g with
 | false => rfl
 | true =>
  cases x with
  | d x =>
   cases x with
   | bool t =>
    have : S.kn c t = S := by
     unfold St.kn
     rw [kn_eq (opd_lk hv)]
    cases t with
    | true => rw [this]; rfl
    | false => rw [this]; rfl
   | _ => rfl
  | _ => rfl
theorem denK_condC {v : Value} {a b : Code} : denK X f (.cond (.const v) a b) S k = if isB (S.opd (.const v)) = true then (if boolOf (S.opd (.const v)) = true then denK X f a S k else denK X f b S k) else none := denK_cond
theorem denK_region {id : Nat} {l : List Oper} : denK X f (.region id ⟨l⟩ false) S k = runK X (X.md f id) l l S (leaveK X f id k) := by
 simp only [denK, denT_region, runK]
 rcases runOps X (callT X) (X.md f id) l l S with _ | ⟨e, S⟩
 · rfl
 · cases e <;> rfl
noncomputable def drwKA (X : Ctx) (md : Bool) (nd : List (List Nat)) (l : List Oper) (S : St) (k : Kt) : List (Nat × Nat) → Ans
 | [] => drwK X md (verSum S.mem, nd) l l S [] k
 | q :: r => (drwE X (callT X) md nd l S (ents S.mem (q :: r))).bind fun p => k p.1 p.2
theorem denK_draw {id : Nat} {l : List Oper} : denK X f (.region id ⟨l⟩ true) S k = drwKA X (X.md f id) (X.od f id) l S (leaveK X f id k) (X.fl f id) := by
 simp only [denK, denT_draw]
 cases X.fl f id with
 | nil =>
  simp only [drwA, drwKA, drwK]
  rcases drwOps X (callT X) (X.md f id) (verSum S.mem, X.od f id) l l S [] with _ | ⟨e, S⟩
  · rfl
  · cases e <;> rfl
 | cons q r =>
  simp only [drwA, drwKA]
  rcases drwE X (callT X) (X.md f id) (X.od f id) l S (ents S.mem (q :: r)) with _ | ⟨e, S⟩
  · rfl
  · cases e <;> rfl
noncomputable def drwKI (X : Ctx) (md : Bool) (nd : List (List Nat)) (LI : List Cl) (all ops : List Oper) (S : St) (acc : List Stp) (k : Kt) : Ans := (drwI X (callT X) md nd LI all ops S acc).bind fun p => k p.1 p.2
noncomputable def drwKT (X : Ctx) (md : Bool) (nd : List (List Nat)) (LI : List Cl) (all r : List Oper) (acc : List Stp) (k : Kt) : Option (St × Stp) → Ans
 | some (S, p) => drwKI X md nd LI all r S (p :: acc) k
 | none => none
theorem drwKA_n {md : Bool} {nd : List (List Nat)} {l : List Oper} : drwKA X md nd l S k [] = drwK X md (verSum S.mem, nd) l l S [] k := rfl
noncomputable def drwKE (X : Ctx) (md : Bool) (nd : List (List Nat)) (l : List Oper) (S : St) (k : Kt) : Option (List Cl) → Ans
 | some LI => drwKI X md nd LI l l S [] k
 | none => none
theorem drwKA_c {md : Bool} {nd : List (List Nat)} {l : List Oper} {q : Nat × Nat} {r : List (Nat × Nat)} : drwKA X md nd l S k (q :: r) = drwKE X md nd l S k (ents S.mem (q :: r)) := by
 simp only [drwKA]
 cases ents S.mem (q :: r) <;> rfl
noncomputable def drwKL (X : Ctx) (md : Bool) (nd : List (List Nat)) (LI : List Cl) (all r : List Oper) (S : St) (o : Oper) (acc : List Stp) (k : Kt) : Bool → Ans
 | true => if ordD nd acc.reverse = true then runK X md all [o] S k else none
 | false => drwKT X md nd LI all r acc k (stepI X (callT X) md LI all S o (lookI X.P LI S o))
theorem drwKI_cons {md : Bool} {nd : List (List Nat)} {LI : List Cl} {all r : List Oper} {o : Oper} {acc : List Stp} : drwKI X md nd LI all (o :: r) S acc k = drwKL X md nd LI all r S o acc k (isLast (nd.getD acc.length []) r) := by
 simp only [drwKI, drwI]
 cases isLast (nd.getD acc.length []) r with
 | true =>
  simp only [drwL, drwKL]
  split
  · rfl
  · rfl
 | false =>
  simp only [drwKL]
  rcases stepI X (callT X) md LI all S o (lookI X.P LI S o) with _ | ⟨S1, p⟩ <;> rfl
theorem seqK_n {b : Code} : seqK X f b k .normal S = denK X f b S k := rfl
theorem seqK_x {b : Code} {id : Nat} : seqK X f b k (.exit id) S = k (.exit id) S := rfl
theorem seqK_r {b : Code} : seqK X f b k .ret S = k .ret S := rfl
theorem seqK_p {b : Code} {t : TypeId} {x : D} : seqK X f b k (.panic t x) S = k (.panic t x) S := rfl
theorem blkK_n {id : Nat} : blkK id k .normal S = k .normal S := rfl
theorem blkK_x {id id' : Nat} : blkK id k (.exit id') S = if id' = id then k .normal S else k (.exit id') S := rfl
theorem blkK_r {id : Nat} : blkK id k .ret S = k .ret S := rfl
theorem blkK_p {id : Nat} {t : TypeId} {x : D} : blkK id k (.panic t x) S = k (.panic t x) S := rfl
theorem loopK_n {c : Code} : loopK X f c k .normal S = denK X f (.loop c) S k := rfl
theorem loopK_x {c : Code} {id : Nat} : loopK X f c k (.exit id) S = k (.exit id) S := rfl
theorem loopK_r {c : Code} : loopK X f c k .ret S = k .ret S := rfl
theorem loopK_p {c : Code} {t : TypeId} {x : D} : loopK X f c k (.panic t x) S = k (.panic t x) S := rfl
theorem leaveK_n {id : Nat} : leaveK X f id k .normal S = k .normal (S.leave X f id) := rfl
theorem leaveK_p {id : Nat} {t : TypeId} {x : D} : leaveK X f id k (.panic t x) S = k (.panic t x) S := rfl
theorem finK_n {P : Program} {p : FPol} {n0 : Nat} {rs : List ResultVar} : finK P p n0 rs .normal S = finish P p n0 rs S := rfl
theorem finK_r {P : Program} {p : FPol} {n0 : Nat} {rs : List ResultVar} : finK P p n0 rs .ret S = finish P p n0 rs S := rfl
theorem finK_p {P : Program} {p : FPol} {n0 : Nat} {rs : List ResultVar} {t : TypeId} {x : D} : finK P p n0 rs (.panic t x) S = finPanic p n0 t x S := rfl
end
def gdst (all : List Oper) (o : Oper) : Option Nat :=
 match o.guard with
 | some (j, _) => dstAt all j
 | none => none
noncomputable def callK (X : Ctx) (md : Bool) (S : St) (d : Option Nat) (all r : List Oper) (k : Kt) : Option CRes → Ans
 | some ⟨.ret x, es, _⟩ => runK X md all r (({ S with mem := putAll S.mem es } : St).put d true x) k
 | some ⟨.panic t x, es, _⟩ => k (.panic t x) { S with mem := putAll S.mem es }
 | none => none
def panicK (S : St) (k : Kt) : Bool × AV → Ans
 | (true, .ifc t d) => k (.panic t d) S
 | _ => none
noncomputable def specK (X : Ctx) (md : Bool) (S : St) (o : Oper) (all r : List Oper) (k : Kt) : Op → Ans
 | .call { callee := .value fv, args, .. } => callK X md S o.dst all r k (callVal X (callT X) S o args.toList (S.opd fv))
 | .panic x => panicK S k (S.opd x)
 | _ => none
noncomputable def stepK (X : Ctx) (md : Bool) (S : St) (o : Oper) (all r : List Oper) (k : Kt) : Res → Ans
 | .val c x => if (opOk S o && c) = true then runK X md all r (S.put o.dst true x) k else none
 | .upd c x e => if (opOk S o && c) = true then runK X md all r (({ S with mem := Mem.set S.mem e } : St).put o.dst true x) k else none
 | .no => specK X md S o all r k o.op
noncomputable def guardK (X : Ctx) (md : Bool) (S : St) (o : Oper) (all r : List Oper) (k : Kt) (b : Bool) : Res → Ans
 | .val c x => if b = true → (opOk S o && c) = true then runK X md all r (S.put o.dst b x) k else none
 | .upd c x e => if b = true then stepK X md S o all r k (.upd c x e) else runK X md all r (S.put o.dst true .junk) k
 | .no => if b = true then specK X md S o all r k o.op else runK X md all r (S.put o.dst true .junk) k
noncomputable def forkK (X : Ctx) (S : St) (o : Oper) (all r : List Oper) (k : Kt) (want t : Bool) : Bool → Ans
 | false => guardK X false S o all r k (t == want) (stepv X.P S o)
 | true => if (t == want) = true then stepK X true (S.cz (gdst all o) want) o all r k (stepv X.P (S.cz (gdst all o) want) o) else runK X true all r ((S.cz (gdst all o) (!want)).put o.dst true (.tup [])) k
noncomputable def grdK (X : Ctx) (md : Bool) (S : St) (o : Oper) (all r : List Oper) (k : Kt) (want : Bool) : GV → Ans
 | .tru t => forkK X S o all r k want t md
 | .skip => runK X md all r (S.put o.dst true (.tup [])) k
 | .bad => none
section
variable {X : Ctx} {f : FuncId} {S : St} {k : Kt} {all r : List Oper} {md : Bool}
theorem stepK_eq (o : Oper) (res : Res) : (andThen (stepOp X (callT X) S o res) (runOps X (callT X) md all r)).bind (fun p => k p.1 p.2) = stepK X md S o all r k res := by
 cases res with
 | val c x => simp only [stepOp, stepK]; split <;> rfl
 | upd c x e => simp only [stepOp, stepK]; split <;> rfl
 | no =>
  simp only [stepOp, stepK, specOp]
  split
  · rename_i fv args tys ho
    rw [ho]
    simp only [specK]
    rcases callVal X (callT X) S o args.toList (S.opd fv) with _ | ⟨out, es, ks⟩
    · rfl
    · cases out <;> rfl
  · rename_i x ho
    rw [ho]
    simp only [specK]
    generalize S.opd x = v
    obtain ⟨g, y⟩ := v
    cases g <;> cases y <;> rfl
  · rename_i h1 h2
    unfold specK
    split
    · rename_i heq; exact absurd heq (h1 _ _ _)
    · rename_i heq; exact absurd heq (h2 _)
    · rfl
theorem runK_nil : runK X md all [] S k = k .normal S := rfl
theorem runK_cons {d : Option Tmp} {op : Op} {ty : TypeId} {pos : String} {af : Array Edge} : runK X md all (⟨d, op, ty, pos, af, none⟩ :: r) S k = stepK X md S ⟨d, op, ty, pos, af, none⟩ all r k (stepv X.P S ⟨d, op, ty, pos, af, none⟩) :=
 stepK_eq _ _
theorem runK_guard {d : Option Tmp} {op : Op} {ty : TypeId} {pos : String} {af : Array Edge} {j : Nat} {w : Bool} : runK X md all (⟨d, op, ty, pos, af, some (j, w)⟩ :: r) S k = grdK X md S ⟨d, op, ty, pos, af, some (j, w)⟩ all r k w (gval (grd all S j)) := by
 simp only [runK, runOps, gstep]
 generalize gval (grd all S j) = g
 cases g with
 | skip => rfl
 | bad => rfl
 | tru t =>
  simp only [grdK]
  cases md with
  | true =>
   simp only [forkK, gdst]
   split
   · exact stepK_eq _ _
   · rfl
  | false =>
  simp only [forkK]
  generalize hs : stepv X.P S _ = res
  cases res with
  | val c x => simp only [guardOp, guardK]; split <;> rfl
  | upd c x e =>
   simp only [guardOp, guardK]
   split
   · exact stepK_eq _ (.upd c x e)
   · rfl
  | no =>
   simp only [guardOp, guardK]
   split
   · exact stepK_eq _ .no
   · rfl
theorem callK_ite {d : Option Nat} {c : Prop} [Decidable c] {a b : Option CRes} : callK X md S d all r k (if c then a else b) = if c then callK X md S d all r k a else callK X md S d all r k b := by split <;> rfl
end
theorem callBack_ite {m : Mem} {k0 : Nat} {ρ B : List Nat} {c : Prop} [Decidable c] {a b : Option (Out × List (Nat × Cont))} : callBack m k0 ρ B (if c then a else b) = if c then callBack m k0 ρ B a else callBack m k0 ρ B b := by split <;> rfl
noncomputable def dcallK (X : Ctx) (md : Bool) (nd : Nat × List (List Nat)) (S : St) (d : Option Nat) (all r : List Oper) (acc : List Stp) (k : Kt) : Option CRes → Ans
 | some ⟨.ret x, es, ks⟩ => drwK X md nd all r (({ S with mem := putAll S.mem es } : St).put d true x) (⟨ks, es, true, x⟩ :: acc) k
 | some ⟨.panic t x, es, ks⟩ => (panE X md nd all r d acc ⟨{ S with mem := putAll S.mem es }, t, x, es, ks⟩).bind fun p => k p.1 p.2
 | none => none
noncomputable def dspecK (X : Ctx) (md : Bool) (nd : Nat × List (List Nat)) (S : St) (o : Oper) (all r : List Oper) (acc : List Stp) (k : Kt) : Op → Ans
 | .call { callee := .value fv, args, .. } => dcallK X md nd S o.dst all r acc k (callVal X (callT X) S o args.toList (S.opd fv))
 | _ => none
noncomputable def dstepK (X : Ctx) (md : Bool) (nd : Nat × List (List Nat)) (S : St) (o : Oper) (all r : List Oper) (acc : List Stp) (k : Kt) : Res → Ans
 | .val c x => if (opOk S o && c) = true then drwK X md nd all r (S.put o.dst true x) (⟨touch S o, [], true, x⟩ :: acc) k else none
 | .upd c x e => if (opOk S o && c && (touch S o).contains e.key) = true then drwK X md nd all r (({ S with mem := Mem.set S.mem e } : St).put o.dst true x) (⟨touch S o, [e], true, x⟩ :: acc) k else none
 | .no => dspecK X md nd S o all r acc k o.op
noncomputable def dcallG (X : Ctx) (md : Bool) (nd : Nat × List (List Nat)) (S : St) (d : Option Nat) (all r : List Oper) (acc : List Stp) (k : Kt) : Option CRes → Ans
 | some ⟨.ret x, es, ks⟩ => drwK X md nd all r (({ S with mem := putAll S.mem es } : St).put d true x) (⟨ks, es, true, x⟩ :: acc) k
 | _ => none
noncomputable def dspecG (X : Ctx) (md : Bool) (nd : Nat × List (List Nat)) (S : St) (o : Oper) (all r : List Oper) (acc : List Stp) (k : Kt) : Op → Ans
 | .call { callee := .value fv, args, .. } => dcallG X md nd S o.dst all r acc k (callVal X (callT X) S o args.toList (S.opd fv))
 | _ => none
noncomputable def dstepG (X : Ctx) (md : Bool) (nd : Nat × List (List Nat)) (S : St) (o : Oper) (all r : List Oper) (acc : List Stp) (k : Kt) : Res → Ans
 | .val c x => if (opOk S o && c) = true then drwK X md nd all r (S.put o.dst true x) (⟨touch S o, [], true, x⟩ :: acc) k else none
 | .upd c x e => if (opOk S o && c && (touch S o).contains e.key) = true then drwK X md nd all r (({ S with mem := Mem.set S.mem e } : St).put o.dst true x) (⟨touch S o, [e], true, x⟩ :: acc) k else none
 | .no => dspecG X md nd S o all r acc k o.op
noncomputable def dguardK (X : Ctx) (md : Bool) (nd : Nat × List (List Nat)) (S : St) (o : Oper) (all r : List Oper) (acc : List Stp) (k : Kt) (b : Bool) : Res → Ans
 | .val c x => if b = true → (opOk S o && c) = true then drwK X md nd all r (S.put o.dst b x) (⟨touch S o, [], b, x⟩ :: acc) k else none
 | .upd c x e => if b = true then dstepG X md nd S o all r acc k (.upd c x e) else drwK X md nd all r (S.put o.dst true .junk) (⟨[], [], true, .junk⟩ :: acc) k
 | .no => if b = true then dspecG X md nd S o all r acc k o.op else drwK X md nd all r (S.put o.dst true .junk) (⟨[], [], true, .junk⟩ :: acc) k
noncomputable def dforkK (X : Ctx) (nd : Nat × List (List Nat)) (S : St) (o : Oper) (all r : List Oper) (acc : List Stp) (k : Kt) (want t : Bool) : Bool → Ans
 | false => dguardK X false nd S o all r acc k (t == want) (stepv X.P S o)
 | true => if (t == want) = true then dstepG X true nd (S.cz (gdst all o) want) o all r acc k (stepv X.P (S.cz (gdst all o) want) o) else drwK X true nd all r ((S.cz (gdst all o) (!want)).put o.dst true (.tup [])) (⟨[], [], true, .tup []⟩ :: acc) k
noncomputable def dgrdK (X : Ctx) (md : Bool) (nd : Nat × List (List Nat)) (S : St) (o : Oper) (all r : List Oper) (acc : List Stp) (k : Kt) (want : Bool) : GV → Ans
 | .tru t => dforkK X nd S o all r acc k want t md
 | .skip => drwK X md nd all r (S.put o.dst true (.tup [])) (⟨[], [], true, .tup []⟩ :: acc) k
 | .bad => none
section
variable {X : Ctx} {f : FuncId} {S : St} {k : Kt} {all r : List Oper} {md : Bool} {nd : Nat × List (List Nat)} {acc : List Stp}
theorem dstepG_eq (o : Oper) (res : Res) : (dThen acc (dstep X (callT X) S o res) (drwOps X (callT X) md nd all r)).bind (fun p => k p.1 p.2) = dstepG X md nd S o all r acc k res := by
 cases res with
 | val c x => simp only [dstep, dstepG]; split <;> rfl
 | upd c x e => simp only [dstep, dstepG]; split <;> rfl
 | no =>
  simp only [dstep, dstepG, dspec]
  split
  · rename_i fv args tys ho
    rw [ho]
    simp only [dspecG]
    rcases callVal X (callT X) S o args.toList (S.opd fv) with _ | ⟨out, es, ks⟩
    · rfl
    · cases out <;> rfl
  · rename_i h1
    unfold dspecG
    split
    · rename_i heq; exact absurd heq (h1 _ _ _)
    · rfl
def revA : List Stp → List Stp → List Stp
 | [], r => r
 | x :: l, r => revA l (x :: r)
theorem revA_eq : ∀ (l r : List Stp), revA l r = l.reverse ++ r
 | [], _ => rfl
 | x :: l, r => by rw [revA, revA_eq l]; simp
theorem drwKI_end {nd : List (List Nat)} {LI : List Cl} : drwKI X md nd LI all [] S acc k = if ordD nd (revA acc []) = true then k .normal S else none := by
 simp only [drwKI, drwI]
 rw [revA_eq, List.append_nil]
 split <;> rfl
theorem drwK_end : drwK X md nd all [] S acc k = if ordD nd.2 (revA acc []) = true then k .normal S else none := by
 rw [revA_eq, List.append_nil]
 simp only [drwK, drwOps]
 split <;> rfl
theorem drwK_cons {d : Option Tmp} {op : Op} {ty : TypeId} {pos : String} {af : Array Edge} : drwK X md nd all (⟨d, op, ty, pos, af, none⟩ :: r) S acc k = dstepK X md nd S ⟨d, op, ty, pos, af, none⟩ all r acc k (stepv X.P S ⟨d, op, ty, pos, af, none⟩) := by
 simp only [drwK, drwOps, panO]
 generalize ho : (⟨d, op, ty, pos, af, none⟩ : Oper) = o
 have hg : o.guard = none := by subst ho; rfl
 have hd : dgstep X (callT X) md all S o = dstep X (callT X) S o (stepv X.P S o) := by unfold dgstep; rw [hg]
 generalize hs : stepv X.P S o = res
 rw [hs] at hd
 cases res with
 | val c x => simp only [panR, drwO, hd, dstepK]; exact dstepG_eq _ (.val c x)
 | upd c x e => simp only [panR, drwO, hd, dstepK]; exact dstepG_eq _ (.upd c x e)
 | no =>
  simp only [panR, panS, dstepK]
  split
  · rename_i fv args tys hop
    rw [hop]
    simp only [dspecK]
    cases hc : callVal X (callT X) S o args.toList (S.opd fv) with
    | none =>
     simp only [panC, drwO, hd, dstep, dspec, hop, hc, dcallK]
     rfl
    | some res =>
     obtain ⟨out, es, ks⟩ := res
     cases out with
     | ret x =>
      simp only [panC, drwO, hd, dstep, dspec, hop, hc, dcallK]
      rfl
     | panic t x => rfl
  · rename_i h1
    simp only [drwO, hd, dstep, dspec]
    unfold dspecK
    split
    · rename_i heq; exact absurd heq (h1 _ _ _)
    · rfl
theorem drwK_guard {d : Option Tmp} {op : Op} {ty : TypeId} {pos : String} {af : Array Edge} {j : Nat} {w : Bool} : drwK X md nd all (⟨d, op, ty, pos, af, some (j, w)⟩ :: r) S acc k = dgrdK X md nd S ⟨d, op, ty, pos, af, some (j, w)⟩ all r acc k w (gval (grd all S j)) := by
 simp only [drwK, drwOps, panO, drwO, dgstep]
 generalize gval (grd all S j) = g
 cases g with
 | skip => rfl
 | bad => rfl
 | tru t =>
  simp only [dgrdK]
  cases md with
  | true =>
   simp only [dforkK, gdst]
   split
   · exact dstepG_eq _ _
   · rfl
  | false =>
  simp only [dforkK]
  generalize hs : stepv X.P S _ = res
  cases res with
  | val c x => simp only [dguard, dguardK]; split <;> rfl
  | upd c x e =>
   simp only [dguard, dguardK]
   split
   · exact dstepG_eq _ (.upd c x e)
   · rfl
  | no =>
   simp only [dguard, dguardK]
   split
   · exact dstepG_eq _ .no
   · rfl
theorem dcallK_ite {d : Option Nat} {c : Prop} [Decidable c] {a b : Option CRes} : dcallK X md nd S d all r acc k (if c then a else b) = if c then dcallK X md nd S d all r acc k a else dcallK X md nd S d all r acc k b := by split <;> rfl
theorem dcallG_ite {d : Option Nat} {c : Prop} [Decidable c] {a b : Option CRes} : dcallG X md nd S d all r acc k (if c then a else b) = if c then dcallG X md nd S d all r acc k a else dcallG X md nd S d all r acc k b := by split <;> rfl
end
def callOk (n : Nat) (p : FPol) (args : List AV) (cs : List Cont) : Bool :=
 decide (args.length ≤ n) && decide (cs.length ≤ 100) && p.sites.all (fun k => decide (100 ≤ k)) && decide p.sites.Nodup
theorem call_run {X : Ctx} {f : FuncId} {fn : Func} {c : Code} {args : List AV} {cs : List Cont} {n : Nat} {rs : List ResultVar} {p : FPol} (hov : X.ov = none) (hor : X.orc f = none) (hf : X.P.funcs[f]? = some fn) (hb : fn.body = some c) (hdf : defC c = false) (hn : fn.ntmps = n) (hrs : fn.results.toList = rs)
 (hp : X.fp f = p) (hs : p.split = false) (hok : callOk n p args cs = true) : callT X f args cs = denK X f c (entry n X.gl args cs p.sites) (finK X.P p cs.length rs) := by
 subst hp
 rw [callT_eq hov hor hf hb hdf, hs]
 simp only [runSplit, runFnT]
 subst hn; subst hrs
 rw [if_pos (by simpa only [callOk] using hok)]
 simp only [denK]
 rcases denT X f c _ with _ | ⟨e, S⟩
 · rfl
 · cases e <;> rfl
attribute [simp] stepv.eq_1
attribute [simp] opOk.eq_1
attribute [simp] okAll.eq_1 okAll.eq_2
attribute [simp] Go.Op.operands.eq_1 Go.Op.operands.eq_2 Go.Op.operands.eq_3 Go.Op.operands.eq_4 Go.Op.operands.eq_5 Go.Op.operands.eq_6 Go.Op.operands.eq_7 Go.Op.operands.eq_8 Go.Op.operands.eq_9 Go.Op.operands.eq_10 Go.Op.operands.eq_11 Go.Op.operands.eq_12 Go.Op.operands.eq_13 Go.Op.operands.eq_14 Go.Op.operands.eq_15 Go.Op.operands.eq_16 Go.Op.operands.eq_17 Go.Op.operands.eq_18 Go.Op.operands.eq_19 Go.Op.operands.eq_20 Go.Op.operands.eq_21 Go.Op.operands.eq_22 Go.Op.operands.eq_23 Go.Op.operands.eq_24 Go.Op.operands.eq_25 Go.Op.operands.eq_26 Go.Op.operands.eq_27 Go.Op.operands.eq_28 Go.Op.operands.eq_29 Go.Op.operands.eq_30 Go.Op.operands.eq_31 Go.Op.operands.eq_32 Go.Op.operands.eq_33 Go.Op.operands.eq_34 Go.Op.operands.eq_35 Go.Op.operands.eq_36 Go.Op.operands.eq_37 Go.Op.operands.eq_38 Go.Op.operands.eq_39 Go.Op.operands.eq_40 Go.Op.operands.eq_41 Go.Op.operands.eq_42 Go.Op.operands.eq_43
attribute [simp] St.opd.eq_1 St.opd.eq_2 St.opd.eq_3 St.opd.eq_4
attribute [simp] Env.lk.eq_1 Env.lk.eq_2
attribute [simp] St.put.eq_1 St.put.eq_2
attribute [simp] Mem.get.eq_1 Mem.get.eq_2
attribute [simp] Mem.set.eq_1 Mem.set.eq_2
attribute [simp] AV.solid.eq_1 AV.solid.eq_2 AV.solid.eq_3
attribute [simp] constAV.eq_1 constAV.eq_2 constAV.eq_3 constAV.eq_4 constAV.eq_5 constAV.eq_6
attribute [simp] AV.cells.eq_1 AV.cells.eq_2 AV.cells.eq_3
attribute [simp] loadR.eq_1 loadR.eq_2 loadR.eq_3 loadR.eq_4 loadR.eq_5
attribute [simp] storeR.eq_1 storeR.eq_2 storeR.eq_3
attribute [simp] fieldRm.eq_1 nilCheckR.eq_1 nilCheckR.eq_2 nilCheckR.eq_3
attribute [simp] indexR.eq_1 indexR.eq_2
attribute [simp] binOpR.eq_1 binOpR.eq_2 binOpR.eq_3 binOpR.eq_4
attribute [simp] isNilV.eq_1 isNilV.eq_2 isNilV.eq_3 isNilV.eq_4
attribute [simp] binR.eq_1 binR.eq_2 binR.eq_3 binR.eq_4 binR.eq_5 binR.eq_6 binR.eq_7 binR.eq_8 binR.eq_9
attribute [simp] intBin.eq_1 intBin.eq_2 intBin.eq_3 intBin.eq_4 intBin.eq_5 intBin.eq_6 intBin.eq_7 intBin.eq_8 intBin.eq_9 intBin.eq_10 intBin.eq_11 intBin.eq_12 intBin.eq_13 intBin.eq_14 intBin.eq_15 intBin.eq_16
attribute [simp] strBin.eq_1 strBin.eq_2 strBin.eq_3 strBin.eq_4 strBin.eq_5 strBin.eq_6 strBin.eq_7 strBin.eq_8
attribute [simp] pickR.eq_1
attribute [simp] pickAV.eq_1 pickAV.eq_2
attribute [simp] pickD.eq_1 pickD.eq_2
attribute [simp] grd.eq_1
attribute [simp] mkAgg.eq_1
def consO {α : Type} (y : α) : Option (List α) → Option (List α)
 | some ys => some (y :: ys)
 | none => none
@[simp] theorem consO_some {α : Type} (y : α) (ys : List α) : consO y (some ys) = some (y :: ys) := rfl
@[simp] theorem consO_none {α : Type} (y : α) : consO y none = none := rfl
@[simp] theorem toDs_nil : toDs [] = some [] := rfl
@[simp] theorem toDs_d (y r) : toDs (.d y :: r) = consO y (toDs r) := by
 cases h : toDs r with
 | none => exact toDs.eq_3 _ _ (fun _ _ _ h2 => by rw [h] at h2; cases h2)
 | some ys => exact toDs.eq_2 _ _ _ h
@[simp] theorem toDs_vec (a b c d r) : toDs (.vec a b c d :: r) = none := by rw [toDs.eq_def]
@[simp] theorem toDs_ptr (a b c r) : toDs (.ptr a b c :: r) = none := by rw [toDs.eq_def]
@[simp] theorem toDs_lit (a r) : toDs (.lit a :: r) = none := by rw [toDs.eq_def]
@[simp] theorem toDs_fn (a b r) : toDs (.fn a b :: r) = none := by rw [toDs.eq_def]
@[simp] theorem toDs_nn (r) : toDs (.nn :: r) = none := by rw [toDs.eq_def]
@[simp] theorem toDs_junk (r) : toDs (.junk :: r) = none := by rw [toDs.eq_def]
attribute [simp] moveR.eq_1 moveR.eq_2
attribute [simp] unR.eq_1 unR.eq_2 unR.eq_3 unR.eq_4
attribute [simp] builtinR.eq_1 builtinR.eq_2 builtinR.eq_3 builtinR.eq_4 builtinR.eq_5 builtinR.eq_6 capR.eq_1
attribute [simp] lenRm.eq_1 lenRm.eq_2 lenRm.eq_3 lenRm.eq_4 lenRm.eq_5
attribute [simp] appR.eq_1
attribute [simp] appSrc.eq_1 appN.eq_1 appN.eq_2 appS.eq_1 appS.eq_2
attribute [simp] fzRes.eq_1 fzRes.eq_2
attribute [simp] srcRows.eq_1 srcRows.eq_2 srcRows.eq_3 srcRows.eq_4 srcRows.eq_5
attribute [simp] makeR.eq_1
attribute [simp] copyR.eq_1
attribute [simp] maxR.eq_1 maxR.eq_2
attribute [simp] foldMax.eq_1 foldMax.eq_2 foldMax.eq_3 foldMax.eq_4
attribute [simp] buildR.eq_1
attribute [simp] fillA.eq_1 fillA.eq_2
attribute [simp] buildSliceR.eq_1
attribute [simp] partDs.eq_1 partDs.eq_2
attribute [simp] convM.eq_1 convM.eq_2
attribute [simp] convR.eq_1 convR.eq_2 convR.eq_3 convR.eq_4 convR.eq_5 convR.eq_6
attribute [simp] makeIfaceR.eq_1
attribute [simp] makeFuncR.eq_1 makeFuncR.eq_2 makeFuncR.eq_3
attribute [simp] extractR.eq_1 extractR.eq_2 fieldVR.eq_1 fieldVR.eq_2 assertR.eq_1
attribute [simp] indexVR.eq_1 indexVR.eq_2 indexVR.eq_3 indexVR.eq_4
attribute [simp] sliceR.eq_1 sliceR.eq_2 sliceR.eq_3 sliceR.eq_4 sliceR.eq_5
attribute [simp] bound.eq_1 bound.eq_2 bound.eq_3
attribute [simp] putCells.eq_1 putCells.eq_2
attribute [simp] nilR.eq_1 nilR.eq_2 nilR.eq_3 nilR.eq_4 nilR.eq_5 nilR.eq_6 nilR.eq_7 nilR.eq_8 nilR.eq_9 nilR.eq_10 nilR.eq_11 nilR.eq_12
attribute [simp] D.cells.eq_1 D.cells.eq_2
attribute [simp] D.size.eq_1 D.size.eq_2
attribute [simp] D.flat.eq_1 D.flat.eq_2
attribute [simp] callVal.eq_1 callVal.eq_2
attribute [simp] argVals.eq_1 argVals.eq_2 fnId.eq_1 fnArgs.eq_1 fnIdN.eq_1 fnArgsN.eq_1 bnB.eq_1
attribute [simp] collect.eq_1 collect.eq_2 collect.eq_3
attribute [simp] argKeys.eq_1 argKeys.eq_2
attribute [simp] argBor.eq_1 argBor.eq_2
attribute [simp] avKeys.eq_1 avKeys.eq_2 avKeys.eq_3 avKeys.eq_4 avKeys.eq_5 avKeys.eq_6 avKeys.eq_7 avKeys.eq_8 avKeys.eq_9 avKeys.eq_10 avKeys.eq_11 avKeys.eq_12
attribute [simp] ptrKeys.eq_1 ptrKeys.eq_2 ptrKeys.eq_3 ptrKeys.eq_4 ptrKeys.eq_5 ptrKeys.eq_6 ptrKeys.eq_7
attribute [simp] vecKeys.eq_1 vecKeys.eq_2 vecKeys.eq_3 vecKeys.eq_4
attribute [simp] contKeys.eq_1 contKeys.eq_2
attribute [simp] vwArgs.eq_1 vwArgs.eq_2 nrm.eq_1 nrm.eq_2
attribute [simp] conts.eq_1 conts.eq_2
attribute [simp] selC.eq_1 selC.eq_2 selC.eq_3
attribute [simp] selE.eq_1 selE.eq_2
attribute [simp] findK.eq_1 findK.eq_2
attribute [simp] callBack.eq_1 callBack.eq_2
attribute [simp] frOk.eq_1 frOk.eq_2
attribute [simp] plainO.eq_1 plainO.eq_2
attribute [simp] plainL.eq_1 plainL.eq_2 plainL.eq_1 plainL.eq_2
attribute [simp] plainC.eq_1 plainC.eq_2 plainC.eq_3
attribute [simp] plainAV.eq_1 plainAV.eq_2 plainAV.eq_3 plainAV.eq_4 plainAV.eq_5 plainAV.eq_6 plainAV.eq_7 plainAV.eq_8 plainAV.eq_9 plainAV.eq_10 plainAV.eq_11 plainAV.eq_12
attribute [simp] plainD.eq_1 plainD.eq_2 plainD.eq_3 plainD.eq_4 plainD.eq_5 plainD.eq_6
attribute [simp] upO.eq_1 upO.eq_2
attribute [simp] up.eq_1 up.eq_2 up.eq_3 up.eq_4 up.eq_5 up.eq_6 up.eq_7 up.eq_8 up.eq_9 up.eq_10 up.eq_11 up.eq_12
attribute [simp] upC.eq_1 upC.eq_2 upC.eq_3
attribute [simp] backL.eq_1 backL.eq_2
attribute [simp] base.eq_1 base.eq_2
attribute [simp] putAll.eq_1 putAll.eq_2
attribute [simp] ghs.eq_1 ghs.eq_2
attribute [simp] Gh.go.eq_1 Gh.go.eq_2 Gh.go.eq_3 Gh.go.eq_4
attribute [simp] St.rekey.eq_1 rkAV.eq_1 rkAV.eq_2 mapB.eq_1 mapB.eq_2 boxD.eq_1 boxD.eq_2 flats.eq_1 flats.eq_2
attribute [simp] finish.eq_1
attribute [simp] resAll.eq_1 resAll.eq_2
attribute [simp] resOne.eq_1 resOne.eq_2
attribute [simp] finKeys.eq_1
attribute [simp] St.trim1.eq_1
attribute [simp] refMem.eq_1 refMem.eq_2 refMem.eq_3
attribute [simp] refEnv.eq_1 refEnv.eq_2
attribute [simp] refAV.eq_1 refAV.eq_2 refAV.eq_3 refAV.eq_4 refAV.eq_5 refAV.eq_6 refAV.eq_7 refAV.eq_8 refAV.eq_9 refAV.eq_10 refAV.eq_11 refAV.eq_12
attribute [simp] St.trim.eq_1
attribute [simp] mapEnv.eq_1 mapEnv.eq_2
attribute [simp] mapM.eq_1 mapM.eq_2
attribute [simp] mapC.eq_1 mapC.eq_2 mapC.eq_3
attribute [simp] trAV.eq_1 trAV.eq_2 trAV.eq_3 trAV.eq_4 trAV.eq_5 trAV.eq_6 trAV.eq_7 trAV.eq_8 trAV.eq_9 trAV.eq_10 trAV.eq_11 trAV.eq_12
attribute [simp] envVals.eq_1 envVals.eq_2
attribute [simp] oneOf.eq_1 oneOf.eq_2
attribute [simp] AV.norm.eq_1 AV.norm.eq_2 AV.norm.eq_3 AV.norm.eq_4
attribute [simp] toD1.eq_1 toD1.eq_2 toD1.eq_3 toD1.eq_4
attribute [simp] toDsN.eq_1 toDsN.eq_2
attribute [simp] vw.eq_1 vw.eq_2 vw.eq_3 vw.eq_4 vw.eq_5 vw.eq_6 vw.eq_7 vw.eq_8 vw.eq_9 vw.eq_10 vw.eq_11 vw.eq_12
attribute [simp] selL.eq_1 selL.eq_2
attribute [simp] TK.agg.eq_1 TK.agg.eq_2 TK.agg.eq_3
attribute [simp] stepK.eq_1 stepK.eq_2 stepK.eq_3
attribute [simp] guardK.eq_1 guardK.eq_2 guardK.eq_3
attribute [simp] grdK.eq_1 grdK.eq_2 grdK.eq_3
attribute [simp] specK.eq_1 specK.eq_2 specK.eq_3
attribute [simp] callK.eq_1 callK.eq_2 callK.eq_3
attribute [simp] panicK.eq_1 panicK.eq_2
attribute [simp] isB.eq_1 isB.eq_2
attribute [simp] boolOf.eq_1 boolOf.eq_2
attribute [simp] boxR.eq_1
attribute [simp] allocR.eq_1 arrR.eq_1 isZ.eq_1 isZ.eq_2 zeroOf.eq_1 zeroOf.eq_2 zeroOf.eq_3
attribute [simp] St.trims.eq_1 St.trims.eq_2
attribute [simp] vws.eq_1 vws.eq_2
attribute [simp] plainAVs.eq_1 plainAVs.eq_2
attribute [simp] plainDs.eq_1 plainDs.eq_2
attribute [simp] ups.eq_1 ups.eq_2
attribute [simp] refAVs.eq_1 refAVs.eq_2
attribute [simp] trAVs.eq_1 trAVs.eq_2
attribute [simp] avsKeys.eq_1 avsKeys.eq_2
attribute [simp] ptrsKeys.eq_1 ptrsKeys.eq_2
attribute [simp] vecsKeys.eq_1 vecsKeys.eq_2
attribute [simp] entryEnv.eq_1 entryEnv.eq_2
attribute [simp] inM.eq_1 inM.eq_2
attribute [simp] runSplit.eq_1 runSplit.eq_2 runSplit.eq_3
attribute [simp] emptyVec.eq_1 emptyVec.eq_2
attribute [simp] splitRun.eq_1
attribute [simp] touch.eq_1 topsOf.eq_1 topsOf.eq_2 topsOf.eq_3
attribute [simp] keysTop.eq_1 keysTop.eq_2
attribute [simp] keyTop.eq_1 keyTop.eq_2 keyTop.eq_3 keyTop.eq_4
attribute [simp] dstepK.eq_1 dstepK.eq_2 dstepK.eq_3
attribute [simp] dguardK.eq_1 dguardK.eq_2 dguardK.eq_3
attribute [simp] dgrdK.eq_1 dgrdK.eq_2 dgrdK.eq_3
attribute [simp] dspecK.eq_1 dspecK.eq_2 dstepG.eq_1 dstepG.eq_2 dstepG.eq_3 dspecG.eq_1 dspecG.eq_2 dcallG.eq_1 dcallG.eq_2
attribute [simp] dcallK.eq_1 dcallK.eq_2 dcallK.eq_3
attribute [simp] fzAV.eq_1 fzAV.eq_2 fzAV.eq_3 fzAV.eq_4 fzAV.eq_5 fzAV.eq_6 fzAV.eq_7 fzAV.eq_8 fzAV.eq_9 fzAV.eq_10 fzAV.eq_11 fzAV.eq_12
attribute [simp] fzAVs.eq_1 fzAVs.eq_2
attribute [simp] St.freeze.eq_1
attribute [simp] St.adopt.eq_1
attribute [simp] Go.Call.operands.eq_1
attribute [simp] D.isByte.eq_1 D.isByte.eq_2
attribute [simp] eqFlat.eq_1 eqFlat.eq_2 eqFlat.eq_3 eqFlat.eq_4
attribute [simp] eqFlats.eq_1 eqFlats.eq_2 eqFlats.eq_3
attribute [simp] glk.eq_1 glk.eq_2
attribute [simp] denK_skip denK_exit denK_ret denK_seq denK_block denK_condT denK_condC denK_region denK_draw drwKA_n seqK_n seqK_x seqK_r seqK_p blkK_n blkK_x blkK_r blkK_p loopK_n loopK_x loopK_r loopK_p leaveK_n leaveK_p finK_n finK_r finK_p runK_nil runK_cons runK_guard callK_ite callBack_ite drwK_cons drwK_guard dcallK_ite dcallG_ite
attribute [simp] frzO.eq_1 frzO.eq_2 frzR.eq_1 frzR.eq_2 mkM.eq_1 mkM.eq_2
attribute [simp] forkK.eq_1 forkK.eq_2
attribute [simp] dforkK.eq_1 dforkK.eq_2
attribute [simp] gdst.eq_1
attribute [simp] Env.kn.eq_1 Env.kn.eq_2 St.kn.eq_1
attribute [simp] ordD.eq_1 ordL.eq_1 ordL.eq_2 ordL.eq_3 ordE.eq_1 ordE.eq_2 ordK.eq_1 ordK.eq_2 revA.eq_1 revA.eq_2 disj.eq_1
attribute [simp] orcAns.eq_1 orcAns.eq_2 liftO.eq_1
@[simp] theorem gval_b (t : Bool) : gval (some (true, .d (.bool t))) = .tru t := rfl
@[simp] theorem gval_t : gval (some (true, .tup [])) = .skip := rfl
attribute [simp] dstAt.eq_1
attribute [simp] St.cz St.prune keyOf St.leave finVals finTrim finOut St.mapAll nvX nv0 callOk entry dead callOp callOp2 callOp3 D.at D.cell D.setCells finPanic
@[simp] theorem vws_d (m ρ bor nv) : ∀ ds : List D, vws m ρ bor nv (ds.map .d) = ds.map .d
 | [] => rfl
 | d :: r => by simp [vws_d m ρ bor nv r]
@[simp] theorem ups_d (ρ bs) : ∀ ds : List D, ups ρ bs (ds.map .d) = ds.map .d
 | [] => rfl
 | d :: r => by simp [ups_d ρ bs r]
@[simp] theorem avsKeys_d : ∀ ds : List D, avsKeys (ds.map .d) = []
 | [] => rfl
 | d :: r => by simp [avsKeys_d r]
@[simp] theorem refAVs_d (k v) : ∀ ds : List D, refAVs k v (ds.map .d) = none
 | [] => rfl
 | d :: r => by simp [refAVs_d k v r]
@[simp] theorem trAVs_d (k v o l) : ∀ ds : List D, trAVs k v o l (ds.map .d) = ds.map .d
 | [] => rfl
 | d :: r => by simp [trAVs_d k v o l r]
@[simp] theorem plainAVs_d : ∀ ds : List D, plainAVs (ds.map .d) = plainDs ds
 | [] => rfl
 | d :: r => by simp [plainAVs_d r]
attribute [simp] List.take_of_length_le
@[simp] def Code.at : Code → List Nat → Code
 | c, [] => c
 | .seq a b, i :: p => if i = 0 then Code.at a p else Code.at b p
 | .cond _ a b, i :: p => if i = 0 then Code.at a p else Code.at b p
 | .block _ c, _ :: p => Code.at c p
 | .loop c, _ :: p => Code.at c p
 | c, _ => c
end Go.Am
end
