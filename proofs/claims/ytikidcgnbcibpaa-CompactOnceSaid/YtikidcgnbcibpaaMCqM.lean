import Derived.Test.YtikidcgnbcibpaaMCqT
import Derived.Test.YtikidcgnbcibpaaMCpY

set_option linter.unusedVariables false
set_option linter.unusedSimpArgs false

/- Compact: batches that rise (plain). -/

set_option linter.unusedSimpArgs false
set_option linter.unusedVariables false
set_option maxHeartbeats 4000000
namespace Go.Proofs.Ytikidcgnbcibpaa

open Go.Av Go.Cp
theorem chk_pair (ct : Int) : ∀ (l : List Rec) (last : Int), Bc.chkL ct last l = 0 → (∀ r ∈ l, last < r.dl ∧ r.dl < ct) ∧ l.Pairwise (fun r s => r.dl < s.dl)
  | [], last, h => ⟨(fun r hr => by cases hr), List.Pairwise.nil⟩
  | r :: l, last, h => by
    unfold Bc.chkL at h
    split at h
    · rename_i q; exact absurd h q
    · split at h
      · cases h
      · rename_i q
        obtain ⟨h1, h2⟩ := chk_pair ct l r.dl h
        refine ⟨fun s hs => ?_, List.Pairwise.cons (fun s hs => (h1 s hs).1) h2⟩
        rcases List.mem_cons.1 hs with rfl | hs
        · omega
        · have := h1 s hs; omega
theorem batE_fits {b : Bat} (h : Bc.batE b = 0) : 0 ≤ b.ba ∧ b.ba + b.co ≤ 4611686018427387903 ∧ 1 ≤ b.co ∧ (∀ r ∈ b.rs, -1 < r.dl ∧ r.dl < b.co) ∧ b.rs.Pairwise (fun r s => r.dl < s.dl) := by
  unfold Bc.batE at h
  split at h
  · rename_i q; exact absurd h q
  split at h
  · rename_i q; exact absurd h q
  rename_i h1 h2
  have h1' : Bc.batN b = 0 := Classical.byContradiction h1
  have h2' : Bc.chkL b.co (-1) b.rs = 0 := Classical.byContradiction h2
  obtain ⟨h3, h4⟩ := chk_pair _ _ _ h2'
  unfold Bc.batN at h1'
  split at h1'
  · cases h1'
  rename_i q
  exact ⟨by omega, by omega, by omega, h3, h4⟩
/-- Batches that rise, up to an offset. -/
structure Rise (l : List Bat) (next : Int) : Prop where
  ok : ∀ b ∈ l, Bc.batE b = 0
  up : ∀ b ∈ l, b.ba + b.co ≤ next
  pw : l.Pairwise (fun b c => b.ba + b.co ≤ c.ba)
theorem Rise.nil : Rise [] 0 := ⟨(fun b h => by cases h), (fun b h => by cases h), List.Pairwise.nil⟩
theorem Rise.snoc {l : List Bat} {next : Int} (h : Rise l next) {b : Bat} (hb : Bc.batE b = 0) (hn : next ≤ b.ba) : Rise (l ++ [b]) (b.ba + b.co) := by
  have hc := (batE_fits hb).2.2.1
  refine ⟨fun x hx => ?_, fun x hx => ?_, ?_⟩
  · rcases List.mem_append.1 hx with hx | hx
    · exact h.ok x hx
    · rw [List.mem_singleton] at hx; rw [hx]; exact hb
  · rcases List.mem_append.1 hx with hx | hx
    · have := h.up x hx; omega
    · rw [List.mem_singleton] at hx; rw [hx]; exact Int.le_refl _
  · rw [List.pairwise_append]
    refine ⟨h.pw, List.pairwise_singleton _ _, fun x hx y hy => ?_⟩
    rw [List.mem_singleton] at hy; subst hy
    have := h.up x hx; omega
theorem take_snoc {l : List Bat} {i : Nat} (hi : i < l.length) : l.take (i + 1) = l.take i ++ [l.getD i bat0] := by
  rw [List.take_add_one, List.getD_eq_getElem?_getD, List.getElem?_eq_getElem hi]; rfl
/-- Offsets rise. -/
theorem rise_prs2 : ∀ (l : List Bat), (∀ b ∈ l, Bc.batE b = 0) → l.Pairwise (fun b c => b.ba + b.co ≤ c.ba) → (prs l).Pairwise (fun p q => atS p.1 p.2 < atS q.1 q.2)
  | [], _, _ => List.Pairwise.nil
  | b :: l, h1, h3 => by
    rw [List.pairwise_cons] at h3
    rw [prs_cons, List.pairwise_append]
    obtain ⟨_, _, hc, hr, hp⟩ := batE_fits (h1 b (by simp))
    refine ⟨?_, rise_prs2 l (fun x hx => h1 x (by simp [hx])) h3.2, fun p hp' q hq => ?_⟩
    · rw [List.pairwise_map]
      exact hp.imp (fun {r s} q => by unfold atS; simp only; omega)
    · obtain ⟨r, hr', rfl⟩ := List.mem_map.1 hp'
      obtain ⟨c, hc', hq⟩ := List.mem_flatMap.1 hq
      obtain ⟨s, hs, rfl⟩ := List.mem_map.1 hq
      have e1 := h3.1 c hc'
      have e2 := hr r hr'
      have e3 := (batE_fits (h1 c (by simp [hc']))).2.2.2.1 s hs
      unfold atS; simp only; omega
theorem rise_prs {l : List Bat} {next : Int} (h : Rise l next) : (prs l).Pairwise (fun p q => atS p.1 p.2 < atS q.1 q.2) := rise_prs2 l h.ok h.pw
/-- What counts of a record and its batch. -/
def posP (p : Bat × Rec) : Int × Rec := (atS p.1 p.2, p.2)
def keepQ (ps : List (Bat × Rec)) (now grace : Int) (p : Bat × Rec) : Bool := keepP ps now grace p.1 p.2
theorem clean_pos (ps : List (Bat × Rec)) (now grace : Int) : ∀ l : List Bat, (prs (cleanT ps now grace l)).map posP = ((prs l).filter (keepQ ps now grace)).map posP
  | [] => rfl
  | b :: l => by
    have ih := clean_pos ps now grace l
    have e : cleanT ps now grace (b :: l) = (if (!(b.rs.filter (keepP ps now grace b)).isEmpty || decide (b.pr ≠ 0)) = true then [{ b with rs := b.rs.filter (keepP ps now grace b) }] else []) ++ cleanT ps now grace l := by
      unfold cleanT
      rw [List.map_cons, List.filter_cons]
      split <;> rfl
    have hb : ((b.rs.map fun r => (b, r)).filter (keepQ ps now grace)).map posP = (b.rs.filter (keepP ps now grace b)).map fun r => (atS b r, r) := by
      rw [List.filter_map, List.map_map]
      rfl
    rw [e, prs_cons, List.filter_append, List.map_append, hb, ← ih]
    split
    · rw [List.singleton_append, prs_cons, List.map_append, List.map_map]
      rfl
    · rename_i q
      have : b.rs.filter (keepP ps now grace b) = [] := by
        have := (Bool.or_eq_false_iff.1 (Bool.eq_false_iff.2 q)).1
        simpa using this
      rw [this]
      rfl
/-- The keys that stand, in order. -/
def keyL (l : List Bat) : List ByteArray := ((prs l).filter (·.2.kd)).map (·.2.key)
theorem keyL_pos (l : List Bat) : keyL l = (((prs l).map posP).filter (·.2.kd)).map (·.2.key) := by
  unfold keyL
  rw [List.filter_map, List.map_map]
  rfl
theorem keyL_clean (ps : List (Bat × Rec)) (now grace : Int) (l : List Bat) : keyL (cleanT ps now grace l) = (((prs l).filter (keepQ ps now grace)).filter (·.2.kd)).map (·.2.key) := by
  rw [keyL_pos, clean_pos, List.filter_map, List.map_map]
  rfl
theorem keep_at {ps : List (Bat × Rec)} {now grace : Int} {p : Bat × Rec} (h : keepQ ps now grace p = true) (hk : p.2.kd = true) : atS p.1 p.2 = (lastP ps p.2.key).getD 0 := by
  unfold keepQ keepP at h
  rw [hk] at h
  simp only [Bool.not_true, Bool.false_or, Bool.and_eq_true, decide_eq_true_eq] at h
  exact h.1
/-- No key stands twice. -/
theorem keys_once {l : List Bat} {next : Int} (h : Rise l next) (now grace : Int) : (keyL (cleanT (prs l) now grace l)).Nodup := by
  rw [keyL_clean]
  unfold List.Nodup
  rw [List.pairwise_map]
  have hp := ((rise_prs h).filter (keepQ (prs l) now grace)).filter (·.2.kd)
  refine hp.imp_of_mem fun {p q} hp hq hlt e => ?_
  obtain ⟨hp1, hp2⟩ := List.mem_filter.1 hp
  obtain ⟨hq1, hq2⟩ := List.mem_filter.1 hq
  have e1 := keep_at (List.mem_filter.1 hp1).2 hp2
  have e2 := keep_at (List.mem_filter.1 hq1).2 hq2
  rw [e] at e1
  omega
theorem last_is (k : ByteArray) : ∀ (ps : List (Bat × Rec)) (o : Option Int) (a : Int), ps.foldl (stepS k) o = some a → o = some a ∨ ∃ p ∈ ps, p.2.kd = true ∧ p.2.key = k ∧ atS p.1 p.2 = a
  | [], o, a, h => .inl h
  | p :: ps, o, a, h => by
    rw [List.foldl_cons] at h
    rcases last_is k ps _ a h with h | ⟨q, hq, h⟩
    · unfold stepS at h
      split at h
      · rename_i hk
        split at h
        · cases h
          exact .inr ⟨p, by simp, hk.1, hk.2, rfl⟩
        · split at h
          · cases h
            exact .inr ⟨p, by simp, hk.1, hk.2, rfl⟩
          · cases h
            exact .inl rfl
      · exact .inl h
    · exact .inr ⟨q, by simp [hq], h⟩
theorem keys_mem (ps : List (Bat × Rec)) (k : ByteArray) : k ∈ keysP ps ↔ ∃ p ∈ ps, p.2.kd = true ∧ p.2.key = k := by
  rw [keysP_last]
  constructor
  · intro h
    obtain ⟨a, ha⟩ := Option.isSome_iff_exists.1 h
    rcases last_is k ps none a ha with h | ⟨p, hp, h1, h2, _⟩
    · cases h
    · exact ⟨p, hp, h1, h2⟩
  · rintro ⟨p, hp, h1, h2⟩
    obtain ⟨c, hc, _⟩ := last_up k ps none p hp h1 h2
    rw [show lastP ps k = some c from hc]; rfl
theorem keysP_nodup (ps : List (Bat × Rec)) : (keysP ps).Nodup := by
  unfold keysP
  have : ∀ (ps : List (Bat × Rec)) (ks : List ByteArray), ks.Nodup → (ps.foldl keyS ks).Nodup := by
    intro ps
    induction ps with
    | nil => intro ks h; exact h
    | cons p ps ih =>
      intro ks h
      refine ih _ ?_
      unfold keyS
      split
      · rename_i q
        unfold List.Nodup at h ⊢
        rw [List.pairwise_append]
        refine ⟨h, List.pairwise_singleton _ _, fun x hx y hy => ?_⟩
        rw [List.mem_singleton] at hy; subst hy
        exact q.2 x hx
      · exact h
  exact this ps [] List.Pairwise.nil
theorem nodup_len {α : Type} [DecidableEq α] : ∀ (a b : List α), a.Nodup → (∀ x ∈ a, x ∈ b) → a.length ≤ b.length
  | [], b, _, _ => Nat.zero_le _
  | x :: a, b, h, hs => by
    unfold List.Nodup at h
    rw [List.pairwise_cons] at h
    have h1 := nodup_len a (b.erase x) h.2 (fun y hy => (List.mem_erase_of_ne (fun e => h.1 y hy e.symm)).2 (hs y (by simp [hy])))
    have hx := hs x (by simp)
    rw [List.length_erase_of_mem hx] at h1
    have : 0 < b.length := List.length_pos_of_mem hx
    simp only [List.length_cons]
    omega
theorem keys_le {l : List Bat} {next : Int} (h : Rise l next) (now grace : Int) : (keyL (cleanT (prs l) now grace l)).length ≤ (keysP (prs l)).length := by
  refine nodup_len _ _ (keys_once h now grace) fun k hk => ?_
  rw [keyL_clean] at hk
  obtain ⟨p, hp, rfl⟩ := List.mem_map.1 hk
  obtain ⟨hp1, hp2⟩ := List.mem_filter.1 hp
  exact (keys_mem _ _).2 ⟨p, (List.mem_filter.1 hp1).1, hp2, rfl⟩
theorem keys_eq {l : List Bat} {next : Int} (h : Rise l next) (now grace : Int) (hd : ∀ p ∈ prs l, p.2.dd = false) : (keyL (cleanT (prs l) now grace l)).length = (keysP (prs l)).length := by
  refine Nat.le_antisymm (keys_le h now grace) (nodup_len _ _ (keysP_nodup _) fun k hk => ?_)
  have hs := (keysP_last (prs l) k).1 hk
  obtain ⟨a, ha⟩ := Option.isSome_iff_exists.1 hs
  rcases last_is k (prs l) none a ha with q | ⟨p, hp, h1, h2, h3⟩
  · cases q
  · rw [keyL_clean]
    refine List.mem_map.2 ⟨p, List.mem_filter.2 ⟨List.mem_filter.2 ⟨hp, ?_⟩, h1⟩, h2⟩
    unfold keepQ keepP
    rw [h1, h2, ha, h3]
    simp [lateS, hd p hp]
/-- Cleaned again nothing changes, where nothing is dead. -/
theorem clean_again {l : List Bat} (now grace : Int) (hd : ∀ p ∈ prs l, p.2.dd = false) : cleanS (cleanS l now grace) now grace = cleanS l now grace := by
  have hpos : ∀ p ∈ prs (cleanS l now grace), ∃ q ∈ prs l, keepQ (prs l) now grace q = true ∧ atS p.1 p.2 = atS q.1 q.2 ∧ p.2 = q.2 := fun p hp => by
    have h1 : posP p ∈ (prs (cleanT (prs l) now grace l)).map posP := List.mem_map.2 ⟨p, hp, rfl⟩
    rw [clean_pos] at h1
    obtain ⟨q, hq, e⟩ := List.mem_map.1 h1
    obtain ⟨hq1, hq2⟩ := List.mem_filter.1 hq
    unfold posP at e
    simp only [Prod.mk.injEq] at e
    exact ⟨q, hq1, hq2, e.1.symm, e.2.symm⟩
  have hall : ∀ b ∈ cleanS l now grace, ∀ r ∈ b.rs, keepP (prs (cleanS l now grace)) now grace b r = true := fun b hb r hr => by
    have hm : (b, r) ∈ prs (cleanS l now grace) := List.mem_flatMap.2 ⟨b, hb, List.mem_map.2 ⟨r, hr, rfl⟩⟩
    obtain ⟨q, hq, hk, e1, e2⟩ := hpos _ hm
    simp only at e1 e2
    cases hkd : r.kd with
    | false => unfold keepP; rw [hkd]; rfl
    | true =>
      have e3 := keep_at hk (by rw [← e2]; exact hkd)
      obtain ⟨c, hc, hle⟩ := last_up r.key (prs (cleanS l now grace)) none (b, r) hm hkd rfl
      rcases last_is r.key _ none c hc with q' | ⟨p', hp', h1, h2, h3⟩
      · cases q'
      · obtain ⟨q2, hq2, hk2, f1, f2⟩ := hpos p' hp'
        have e4 := keep_at hk2 (by rw [← f2]; exact h1)
        have k4 : q2.2.key = r.key := by rw [← f2]; exact h2
        have k3 : q.2.key = r.key := by rw [← e2]
        rw [k4] at e4
        rw [k3] at e3
        have hat : atS b r = c := by rw [e1, e3, ← e4, ← f1, h3]
        have hl : lastP (prs (cleanS l now grace)) r.key = some c := hc
        have hdr : r.dd = false := by rw [e2]; exact hd q hq
        unfold keepP
        rw [hkd, hl, hat]
        simp [lateS, hdr]
  have hne : ∀ b ∈ cleanS l now grace, (!b.rs.isEmpty || decide (b.pr ≠ 0)) = true := fun b hb => (List.mem_filter.1 hb).2
  rw [← cleanT_prs (cleanS l now grace)]
  unfold cleanT
  have hmap : ∀ m : List Bat, (∀ b ∈ m, ∀ r ∈ b.rs, keepP (prs (cleanS l now grace)) now grace b r = true) → (m.map fun b => { b with rs := b.rs.filter (keepP (prs (cleanS l now grace)) now grace b) }) = m := by
    intro m
    induction m with
    | nil => intro _; rfl
    | cons b m ih =>
      intro h
      rw [List.map_cons, ih (fun x hx => h x (by simp [hx])), List.filter_eq_self.2 (h b (by simp))]
  rw [hmap _ hall]
  exact List.filter_eq_self.2 hne
theorem clean_dirty {l : List Bat} (now grace : Int) (hd : ∀ p ∈ prs l, p.2.dd = false) : dirtyS (cleanS l now grace) now grace = false := by
  unfold dirtyS
  rw [clean_again now grace hd]
  simp
end Go.Proofs.Ytikidcgnbcibpaa

/- Frames, written out. -/

set_option linter.unusedSimpArgs false
set_option linter.unusedVariables false
set_option maxRecDepth 100000
set_option maxHeartbeats 4000000
namespace Go.Proofs.Ytikidcgnbcibpaa

open Go.Av Go.Cp
/-- What a slot holds. -/
def slotv (a : Act) (k : Nat) : Value := a.tmps.getD k Go.undef
theorem lit_list (t : Array Value) (n : Nat) (h : t.size = n) : t = ((List.range n).map fun k => t.getD k Go.undef).toArray := by
  subst h
  apply Array.ext'
  apply List.ext_getElem
  · simp
  · intro i h1 h2
    simp at h1
    simp [Array.getD_eq_getD_getElem?, h1]
theorem lit210 (a : Act) (h : a.tmps.size = 210) (hd : a.defers = []) : a = { tmps := List.toArray (slotv a 0 :: slotv a 1 :: slotv a 2 :: slotv a 3 :: slotv a 4 :: slotv a 5 :: slotv a 6 :: slotv a 7 :: slotv a 8 :: slotv a 9 :: slotv a 10 :: slotv a 11 :: slotv a 12 :: slotv a 13 :: slotv a 14 :: slotv a 15 :: slotv a 16 :: slotv a 17 :: slotv a 18 :: slotv a 19 :: slotv a 20 :: slotv a 21 :: slotv a 22 :: slotv a 23 :: slotv a 24 :: slotv a 25 :: slotv a 26 :: slotv a 27 :: slotv a 28 :: slotv a 29 :: slotv a 30 :: slotv a 31 :: slotv a 32 :: slotv a 33 :: slotv a 34 :: slotv a 35 :: slotv a 36 :: slotv a 37 :: slotv a 38 :: slotv a 39 :: slotv a 40 :: slotv a 41 :: slotv a 42 :: slotv a 43 :: slotv a 44 :: slotv a 45 :: slotv a 46 :: slotv a 47 :: slotv a 48 :: slotv a 49 :: slotv a 50 :: slotv a 51 :: slotv a 52 :: slotv a 53 :: slotv a 54 :: slotv a 55 :: slotv a 56 :: slotv a 57 :: slotv a 58 :: slotv a 59 :: slotv a 60 :: slotv a 61 :: slotv a 62 :: slotv a 63 :: slotv a 64 :: slotv a 65 :: slotv a 66 :: slotv a 67 :: slotv a 68 :: slotv a 69 :: slotv a 70 :: slotv a 71 :: slotv a 72 :: slotv a 73 :: slotv a 74 :: slotv a 75 :: slotv a 76 :: slotv a 77 :: slotv a 78 :: slotv a 79 :: slotv a 80 :: slotv a 81 :: slotv a 82 :: slotv a 83 :: slotv a 84 :: slotv a 85 :: slotv a 86 :: slotv a 87 :: slotv a 88 :: slotv a 89 :: slotv a 90 :: slotv a 91 :: slotv a 92 :: slotv a 93 :: slotv a 94 :: slotv a 95 :: slotv a 96 :: slotv a 97 :: slotv a 98 :: slotv a 99 :: slotv a 100 :: slotv a 101 :: slotv a 102 :: slotv a 103 :: slotv a 104 :: slotv a 105 :: slotv a 106 :: slotv a 107 :: slotv a 108 :: slotv a 109 :: slotv a 110 :: slotv a 111 :: slotv a 112 :: slotv a 113 :: slotv a 114 :: slotv a 115 :: slotv a 116 :: slotv a 117 :: slotv a 118 :: slotv a 119 :: slotv a 120 :: slotv a 121 :: slotv a 122 :: slotv a 123 :: slotv a 124 :: slotv a 125 :: slotv a 126 :: slotv a 127 :: slotv a 128 :: slotv a 129 :: slotv a 130 :: slotv a 131 :: slotv a 132 :: slotv a 133 :: slotv a 134 :: slotv a 135 :: slotv a 136 :: slotv a 137 :: slotv a 138 :: slotv a 139 :: slotv a 140 :: slotv a 141 :: slotv a 142 :: slotv a 143 :: slotv a 144 :: slotv a 145 :: slotv a 146 :: slotv a 147 :: slotv a 148 :: slotv a 149 :: slotv a 150 :: slotv a 151 :: slotv a 152 :: slotv a 153 :: slotv a 154 :: slotv a 155 :: slotv a 156 :: slotv a 157 :: slotv a 158 :: slotv a 159 :: slotv a 160 :: slotv a 161 :: slotv a 162 :: slotv a 163 :: slotv a 164 :: slotv a 165 :: slotv a 166 :: slotv a 167 :: slotv a 168 :: slotv a 169 :: slotv a 170 :: slotv a 171 :: slotv a 172 :: slotv a 173 :: slotv a 174 :: slotv a 175 :: slotv a 176 :: slotv a 177 :: slotv a 178 :: slotv a 179 :: slotv a 180 :: slotv a 181 :: slotv a 182 :: slotv a 183 :: slotv a 184 :: slotv a 185 :: slotv a 186 :: slotv a 187 :: slotv a 188 :: slotv a 189 :: slotv a 190 :: slotv a 191 :: slotv a 192 :: slotv a 193 :: slotv a 194 :: slotv a 195 :: slotv a 196 :: slotv a 197 :: slotv a 198 :: slotv a 199 :: slotv a 200 :: slotv a 201 :: slotv a 202 :: slotv a 203 :: slotv a 204 :: slotv a 205 :: slotv a 206 :: slotv a 207 :: slotv a 208 :: slotv a 209 :: []), defers := [] } := by
  have h1 := lit_list a.tmps 210 h
  cases a
  simp only at hd h1
  subst hd
  exact congrArg (fun t => ({ tmps := t, defers := [] } : Act)) h1
theorem lit149 (a : Act) (h : a.tmps.size = 149) (hd : a.defers = []) : a = { tmps := List.toArray (slotv a 0 :: slotv a 1 :: slotv a 2 :: slotv a 3 :: slotv a 4 :: slotv a 5 :: slotv a 6 :: slotv a 7 :: slotv a 8 :: slotv a 9 :: slotv a 10 :: slotv a 11 :: slotv a 12 :: slotv a 13 :: slotv a 14 :: slotv a 15 :: slotv a 16 :: slotv a 17 :: slotv a 18 :: slotv a 19 :: slotv a 20 :: slotv a 21 :: slotv a 22 :: slotv a 23 :: slotv a 24 :: slotv a 25 :: slotv a 26 :: slotv a 27 :: slotv a 28 :: slotv a 29 :: slotv a 30 :: slotv a 31 :: slotv a 32 :: slotv a 33 :: slotv a 34 :: slotv a 35 :: slotv a 36 :: slotv a 37 :: slotv a 38 :: slotv a 39 :: slotv a 40 :: slotv a 41 :: slotv a 42 :: slotv a 43 :: slotv a 44 :: slotv a 45 :: slotv a 46 :: slotv a 47 :: slotv a 48 :: slotv a 49 :: slotv a 50 :: slotv a 51 :: slotv a 52 :: slotv a 53 :: slotv a 54 :: slotv a 55 :: slotv a 56 :: slotv a 57 :: slotv a 58 :: slotv a 59 :: slotv a 60 :: slotv a 61 :: slotv a 62 :: slotv a 63 :: slotv a 64 :: slotv a 65 :: slotv a 66 :: slotv a 67 :: slotv a 68 :: slotv a 69 :: slotv a 70 :: slotv a 71 :: slotv a 72 :: slotv a 73 :: slotv a 74 :: slotv a 75 :: slotv a 76 :: slotv a 77 :: slotv a 78 :: slotv a 79 :: slotv a 80 :: slotv a 81 :: slotv a 82 :: slotv a 83 :: slotv a 84 :: slotv a 85 :: slotv a 86 :: slotv a 87 :: slotv a 88 :: slotv a 89 :: slotv a 90 :: slotv a 91 :: slotv a 92 :: slotv a 93 :: slotv a 94 :: slotv a 95 :: slotv a 96 :: slotv a 97 :: slotv a 98 :: slotv a 99 :: slotv a 100 :: slotv a 101 :: slotv a 102 :: slotv a 103 :: slotv a 104 :: slotv a 105 :: slotv a 106 :: slotv a 107 :: slotv a 108 :: slotv a 109 :: slotv a 110 :: slotv a 111 :: slotv a 112 :: slotv a 113 :: slotv a 114 :: slotv a 115 :: slotv a 116 :: slotv a 117 :: slotv a 118 :: slotv a 119 :: slotv a 120 :: slotv a 121 :: slotv a 122 :: slotv a 123 :: slotv a 124 :: slotv a 125 :: slotv a 126 :: slotv a 127 :: slotv a 128 :: slotv a 129 :: slotv a 130 :: slotv a 131 :: slotv a 132 :: slotv a 133 :: slotv a 134 :: slotv a 135 :: slotv a 136 :: slotv a 137 :: slotv a 138 :: slotv a 139 :: slotv a 140 :: slotv a 141 :: slotv a 142 :: slotv a 143 :: slotv a 144 :: slotv a 145 :: slotv a 146 :: slotv a 147 :: slotv a 148 :: []), defers := [] } := by
  have h1 := lit_list a.tmps 149 h
  cases a
  simp only at hd h1
  subst hd
  exact congrArg (fun t => ({ tmps := t, defers := [] } : Act)) h1
theorem bat_at {mu : Mem} {w : World} (hm : MemOK mu w) {l : List Bat} {p : Option Addr} {n c : Nat} (h : Rep mu (.sl 6 (BtL l)) (.slice p n c)) {i : Nat} (hi : i < l.length) : ∃ b o rp rc, p = some ⟨b, o, none⟩ ∧ BatW w b (o + i * 6) (l.getD i bat0) rp rc ∧ Rep mu (.sl 6 (RcL (l.getD i bat0).rs)) (.slice rp (l.getD i bat0).rs.length rc) := by
  rcases h.inv_sl with ⟨⟨pp, cap, e, hp⟩, hx⟩ | ⟨b, off, cap, vals, e, h1, h2, h3, h4⟩
  · have : l = [] := by simpa [BtL] using hx
    subst this
    simp at hi
  · cases e
    have hg : (BtL l).getD i .undef = (l.getD i bat0).sv := by simp [BtL, List.getD_eq_getElem?_getD, hi]
    have hc : ∀ j, j < 6 → ∃ v, w.cell? ⟨b, off + i * 6 + j, none⟩ = some v ∧ Rep mu ((l.getD i bat0).sv.cell j) v := fun j hj => by
      have k1 := h3 i j (by simpa using hi) hj
      have k2 := h4 i j (by simpa using hi) hj
      rw [hg] at k2
      exact ⟨_, (hm _ _ _ k1).1, k2⟩
    obtain ⟨v0, c0, r0⟩ := hc 0 (by omega)
    obtain ⟨v1, c1, r1⟩ := hc 1 (by omega)
    obtain ⟨v2, c2, r2⟩ := hc 2 (by omega)
    obtain ⟨v3, c3, r3⟩ := hc 3 (by omega)
    obtain ⟨v4, c4, r4⟩ := hc 4 (by omega)
    obtain ⟨v5, c5, r5⟩ := hc 5 (by omega)
    generalize l.getD i bat0 = r at r0 r1 r2 r3 r4 r5
    have e0 : v0 = .int .i64 r.ba := Rep.inv_int r0
    have e1 : v1 = .int .i64 r.co := Rep.inv_int r1
    have e2 : v2 = .int .i64 r.pr := Rep.inv_int r2
    have e3 : v3 = .int .i64 r.ep := Rep.inv_int r3
    have e4 : v4 = .int .i64 r.sq := Rep.inv_int r4
    have r5' : Rep mu (.sl 6 (RcL r.rs)) v5 := r5
    obtain ⟨rp, rc, e5⟩ := sl_shape r5'
    rw [RcL_length] at e5
    subst e0 e1 e2 e3 e4 e5
    exact ⟨b, off, rp, rc, rfl, ⟨c0, c1, c2, c3, c4, c5⟩, r5'⟩
theorem le_all {mu : Mem} {w : World} (h : MemOK mu w) : mu.le (memAll w) := fun b j v e => memAll_get (h b j v e).1 (h b j v e).2
theorem map_inv {mu : Mem} {b : Nat} {v : Value} (h : Rep mu (.map b) v) : v = .map (some b) := by cases h; rfl
/-- A box's cells. -/
theorem box_cell {g : Gh} {w : World} {s b : Nat} {cells : List RV} (h : BoxAt g w s b cells) {j : Nat} (hj : j < cells.length) : ∃ v, w.cell? ⟨b, j, none⟩ = some v ∧ RepR g w (.cell s j) (cells.getD j (.sv .undef)) v := by
  obtain ⟨_, _, _, c, e, fr, h1, _, h2, h3⟩ := h
  refine ⟨_, ?_, h3 j hj⟩
  rw [cell_of_block h1]
  simp [Array.getD_eq_getD_getElem?, h2, hj]
end Go.Proofs.Ytikidcgnbcibpaa

/- Compact: CompactOnce, the batches looked at. -/


set_option linter.unusedSimpArgs false
set_option linter.unusedVariables false
set_option maxRecDepth 100000
set_option maxHeartbeats 40000000
namespace Go.Proofs.Ytikidcgnbcibpaa
open Go.RowKit
open Go.Av Go.Cp
def eBt (x : Bat) : List SV := [x.sv]
theorem eBt_inj : ∀ a b, eBt a = eBt b → a = b := fun a b h => by
  have : BtL [a] = BtL [b] := by simpa [eBt, BtL] using h
  simpa using BtL_inj _ _ this
noncomputable def RO : Orc := { p := fun f l => match f with
    | 7 => row eU (fun _ => (True, .sv (.bool true))) l
    | 12 => row eD (fun x => (LOK x.1, .sv (.sl 6 (BtL (cleanS x.1 x.2.1 x.2.2))))) l
    | 14 => row eBt (fun x => (Bc.bok x, .sv (.int .i64 (Bc.batE x)))) l
    | 15 => row eBt (fun x => (0 ≤ x.ba + x.co ∧ x.ba + x.co ≤ 4611686018427387904, .sv (.int .i64 (x.ba + x.co)))) l
    | _ => none }
theorem RO_ok : RO.ok Try.prog := by
  refine ⟨fun f l c rv h hc => ?_, fun _ _ _ _ _ _ h => (by cases h), fun _ _ _ _ h => (by cases h), fun _ h => (by cases h), fun _ _ _ _ _ _ h => (by cases h), fun _ _ _ _ _ _ _ h => (by cases h)⟩
  simp only [RO] at h
  split at h
  · exact row_ok h hc (fun _ _ => awake_pure)
  · exact row_ok h hc (fun x hx => clean_pure x.1 x.2.1 x.2.2 hx)
  · exact row_ok h hc (fun x hx => Bc.check_bat x hx)
  · exact row_ok h hc (fun x hx => Bc.next_bat x hx.1 hx.2)
  · cases h
theorem RO_7 : RO.p 7 [] = some (True, .sv (.bool true)) := row_eq (enc := eU) (fun _ _ _ => rfl) _ ()
theorem RO_12 (l : List Bat) (now grace : Int) : RO.p 12 [.sl 6 (BtL l), .int .i64 now, .int .i64 grace] = some (LOK l, .sv (.sl 6 (BtL (cleanS l now grace)))) := row_eq eD_inj _ (l, now, grace)
theorem RO_14 (b : Bat) : RO.p 14 [.agg [.int .i64 b.ba, .int .i64 b.co, .int .i64 b.pr, .int .i64 b.ep, .int .i64 b.sq, .sl 6 (RcL b.rs)]] = some (Bc.bok b, .sv (.int .i64 (Bc.batE b))) := row_eq eBt_inj _ b
theorem RO_15 (b : Bat) : RO.p 15 [.agg [.int .i64 b.ba, .int .i64 b.co, .int .i64 b.pr, .int .i64 b.ep, .int .i64 b.sq, .sl 6 (RcL b.rs)]] = some (0 ≤ b.ba + b.co ∧ b.ba + b.co ≤ 4611686018427387904, .sv (.int .i64 (b.ba + b.co))) := row_eq eBt_inj _ b
def stA (l : List Bat) (now grace : Int) (i : Nat) (next : Int) (dead : Bool) : St := { n := 149, sl := [(0, .sv (.sl 6 (BtL l))), (1, .sv (.int .i64 now)), (2, .sv (.int .i64 grace)), (7, .sv (.int .i64 next)), (8, .sv (.bool dead)), (9, .sv (.int .i64 i))], bx := [], hp := fun _ => none }
def stC (l : List Bat) (now grace : Int) (dead : Bool) : St := { n := 149, sl := [(0, .sv (.sl 6 (BtL l))), (1, .sv (.int .i64 now)), (2, .sv (.int .i64 grace)), (8, .sv (.bool dead))], bx := [], hp := fun _ => none }
def deadL (ps : List (Bat × Rec)) : Bool := ps.any (·.2.dd)
/-- What the look at the batches leaves. -/
def OnceQ (l : List Bat) (now grace : Int) (e : AEx) (st : St) : Prop := match e with
  | .exit 0 => ∃ dead, Wk st (stC l now grace dead) ∧ (∃ next, Rise l next) ∧ dead = deadL (prs l)
  | .ret => RvIs st [.t 6] (.sv (.bool true))
  | _ => False
def deadR (d : Bool) (rs : List Rec) : Bool := d || rs.any (·.dd)
theorem once_look {l : List Bat} (hL : lightL l = true) (hok : ∀ b ∈ l, Bc.bok b) (now grace : Int) : awpR RO p5_l (OnceQ l now grace) (stA l now grace 0 0 false) := by
  have HOK := light_ok hL
  have hll := HOK.l
  have r7 := RO_7
  have r14 := RO_14
  have r15 := RO_15
  generalize RO = R at r7 r14 r15
  simp only [p5_l, awpR_loopgo]
  refine awpR_loop (α := Nat × Int) (fun p => p.1 ≤ l.length ∧ Rise (l.take p.1) p.2) (fun p => stA l now grace p.1 p.2 (deadL (prs (l.take p.1)))) (fun p => l.length - p.1) (0, 0) ⟨Nat.zero_le _, Rise.nil⟩ (by simp [stA, deadL, prs]) ?_
  rintro ⟨i, next⟩ ⟨hi, hrise⟩
  simp only at hi hrise
  obtain ⟨dead, hdead⟩ : ∃ dead, dead = deadL (prs (l.take i)) := ⟨_, rfl⟩
  rw [← hdead]
  by_cases h : i < l.length
  · have hlt : (i : Int) < l.length := by omega
    have hw := wrap_succ h (by omega : l.length < 4611686018427387904)
    have hg1 := BtL_get l h
    have e1 : (BtL l)[i]'(by simpa using h) = (l.getD i bat0).sv := by rw [← hg1, List.getElem?_eq_getElem]; rfl
    have hbk : Bc.bok (l.getD i bat0) := hok _ (by rw [List.getD_eq_getElem?_getD, List.getElem?_eq_getElem h]; exact List.getElem_mem h)
    have hsn := take_snoc h
    have hps := prs_succ l h
    have hxl : (l.getD i bat0).rs.length ≤ 50000 := by
      have := Nat.le_trans (prs_len h (Nat.le_refl _)) HOK.n
      rw [List.length_append, pr1_len] at this
      omega
    generalize l.getD i bat0 = x at *
    have r14' := r14 x
    have r15' := r15 x
    by_cases hE : Bc.batE x = 0
    case neg =>
      simp [stA, hlt, h, hg1, e1, Bat.sv, Bat.cells, r14', hbk, hE, r7]
      unfold OnceQ
      simp
    by_cases hn : x.ba < next
    case pos =>
      simp [stA, hlt, h, hg1, e1, Bat.sv, Bat.cells, r14', hbk, hE, hn, r7]
      unfold OnceQ
      simp
    have hr2 := hrise.snoc hE (by omega)
    rw [← hsn] at hr2
    obtain ⟨f1, f2, f3, _, _⟩ := batE_fits hE
    have f4 : 0 ≤ x.ba + x.co := by omega
    have f5 : x.ba + x.co ≤ 4611686018427387904 := by omega
    have hd2 : deadL (prs (l.take (i + 1))) = deadR dead x.rs := by
      rw [hps, hdead]
      unfold deadR deadL pr1
      rw [List.any_append, List.take_length, List.any_map]
      rfl
    clear hps hsn hrise hdead hok
    simp [stA, hlt, h, hg1, e1, Bat.sv, Bat.cells, r14', hbk, hE, hn, r15', f4, f5]
    refine awpR_loop (α := Nat) (fun k => k ≤ x.rs.length) (fun k => { n := 149, sl := [(0, .sv (.sl 6 (BtL l))), (1, .sv (.int .i64 now)), (2, .sv (.int .i64 grace)), (7, .sv (.int .i64 (x.ba + x.co))), (8, .sv (.bool (deadR dead (x.rs.take k)))), (9, .sv (.int .i64 i)), (10, .sv (.int .i64 k))], bx := [], hp := fun _ => none })
      (fun k => x.rs.length - k) 0 (Nat.zero_le _) (by simp [deadR]) ?_
    rintro k hk
    by_cases h2 : k < x.rs.length
    · have hlt2 : (k : Int) < x.rs.length := by omega
      have hw2 := wrap_succ h2 (by omega : x.rs.length < 4611686018427387904)
      have hg2 := RcL_get x.rs h2
      have e2 : (RcL x.rs)[k]'(by simpa using h2) = (x.rs.getD k rec0).sv := by rw [← hg2, List.getElem?_eq_getElem]; rfl
      have hd3 : deadR dead (x.rs.take (k + 1)) = (deadR dead (x.rs.take k) || (x.rs.getD k rec0).dd) := by
        unfold deadR
        rw [List.take_add_one, List.any_append, List.getD_eq_getElem?_getD, List.getElem?_eq_getElem h2]
        simp [Bool.or_assoc]
      generalize x.rs.getD k rec0 = r at *
      generalize deadR dead (x.rs.take k) = dd at *
      cases dd with
      | true =>
        simp [hlt, h, hg1, e1, hlt2, h2, hg2, e2, Bat.sv, Bat.cells, Rec.sv, Rec.cells, hw2]
        exact ⟨k + 1, by omega, by omega, by rw [hd3]; rfl, by omega⟩
      | false =>
        simp [hlt, h, hg1, e1, hlt2, h2, hg2, e2, Bat.sv, Bat.cells, Rec.sv, Rec.cells, hw2]
        exact ⟨k + 1, by omega, by omega, by rw [hd3]; rfl, by omega⟩
    · obtain rfl : k = x.rs.length := by omega
      have hlt2 : ¬ ((x.rs.length : Nat) : Int) < x.rs.length := by omega
      rw [List.take_length, ← hd2]
      simp [hlt, h, hg1, e1, hlt2, Bat.sv, Bat.cells, hw]
      exact ⟨i + 1, x.ba + x.co, ⟨by omega, hr2⟩, by omega, by simp [stA]⟩
  · obtain rfl : i = l.length := by omega
    have hlt : ¬ ((l.length : Nat) : Int) < l.length := by omega
    rw [List.take_length] at hrise hdead
    simp [stA, hlt]
    exact ⟨dead, by simp [stC], ⟨next, hrise⟩, hdead⟩
end Go.Proofs.Ytikidcgnbcibpaa

/- Compact: CompactOnce, the keys gathered. -/

set_option linter.unusedSimpArgs false
set_option linter.unusedVariables false
set_option maxRecDepth 100000
set_option maxHeartbeats 40000000
namespace Go.Proofs.Ytikidcgnbcibpaa
open Go.RowKit
open Go.Av Go.Cp
def KL (ks : List ByteArray) : List SV := ks.map .str
@[simp] theorem KL_length (ks : List ByteArray) : (KL ks).length = ks.length := by simp [KL]
theorem KL_get (ks : List ByteArray) {i : Nat} (h : i < ks.length) : (KL ks)[i]?.getD .undef = .str (ks.getD i ⟨#[]⟩) := by simp [KL, List.getD_eq_getElem?_getD, h]
theorem KL_snoc (ks : List ByteArray) (k : ByteArray) : KL (ks ++ [k]) = KL ks ++ [.str k] := by simp [KL]
def keyR (rs : List Rec) : List ByteArray := (rs.filter (·.kd)).map (·.key)
theorem keyL_take (c : List Bat) {i : Nat} (hi : i < c.length) : keyL (c.take (i + 1)) = keyL (c.take i) ++ keyR (c.getD i bat0).rs := by
  unfold keyL keyR
  rw [prs_succ c hi, List.filter_append, List.map_append]
  congr 1
  unfold pr1
  rw [List.take_length, List.filter_map, List.map_map]
  rfl
theorem keyR_succ (rs : List Rec) {k : Nat} (hk : k < rs.length) : keyR (rs.take (k + 1)) = keyR (rs.take k) ++ (if (rs.getD k rec0).kd = true then [(rs.getD k rec0).key] else []) := by
  unfold keyR
  rw [filt_succ (·.kd) rs hk, List.map_append]
  congr 1
  split <;> rfl
theorem keyL_le (c : List Bat) : (keyL c).length ≤ (prs c).length := by
  unfold keyL
  rw [List.length_map]
  exact List.length_filter_le _ _
/-- Keys so far, and one more. -/
theorem key_new {c : List Bat} (hn : (keyL c).Nodup) {i k : Nat} (hi : i < c.length) (hk : k < (c.getD i bat0).rs.length) (hkd : ((c.getD i bat0).rs.getD k rec0).kd = true) : ∀ y ∈ keyL (c.take i) ++ keyR ((c.getD i bat0).rs.take k), y ≠ ((c.getD i bat0).rs.getD k rec0).key := by
  have h1 : keyL c = keyL (c.take (i + 1)) ++ keyL (c.drop (i + 1)) := by
    conv => lhs; rw [← List.take_append_drop (i + 1) c]
    unfold keyL prs
    rw [List.flatMap_append, List.filter_append, List.map_append]
  have h2 : keyR (c.getD i bat0).rs = keyR ((c.getD i bat0).rs.take (k + 1)) ++ keyR ((c.getD i bat0).rs.drop (k + 1)) := by
    conv => lhs; rw [← List.take_append_drop (k + 1) (c.getD i bat0).rs]
    unfold keyR
    rw [List.filter_append, List.map_append]
  rw [keyR_succ _ hk, if_pos hkd] at h2
  rw [keyL_take c hi, h2] at h1
  rw [h1] at hn
  unfold List.Nodup at hn
  rw [List.pairwise_append] at hn
  have hn := hn.1
  rw [← List.append_assoc, ← List.append_assoc, List.pairwise_append] at hn
  have hn := hn.1
  rw [List.pairwise_append] at hn
  exact fun y hy => hn.2.2 y hy _ (by simp)
theorem key_len {c : List Bat} {i k : Nat} (hi : i < c.length) (hk : k ≤ (c.getD i bat0).rs.length) : (keyL (c.take i) ++ keyR ((c.getD i bat0).rs.take k)).length ≤ (prs c).length := by
  have h1 := prs_len hi hk
  rw [List.length_append] at h1 ⊢
  have h2 := keyL_le (c.take i)
  have h3 : (keyR ((c.getD i bat0).rs.take k)).length ≤ (pr1 (c.getD i bat0) k).length := by
    unfold keyR pr1
    rw [List.length_map, List.length_map]
    exact List.length_filter_le _ _
  omega
def stK (l c : List Bat) (now grace : Int) (dead : Bool) (ks : List ByteArray) : St := { n := 149, sl := [(0, .sv (.sl 6 (BtL l))), (1, .sv (.int .i64 now)), (2, .sv (.int .i64 grace)), (8, .sv (.bool dead)), (11, .sv (.sl 6 (BtL c))), (12, .own 1 (KL ks))], bx := [], hp := fun _ => none }
theorem once_keys {l c : List Bat} (hc : LOK c) (hn : (keyL c).Nodup) (now grace : Int) (dead : Bool) : awpR RO p5_6 (fun e st => e = .normal ∧ Wk st (stK l c now grace dead (keyL c))) (stK l c now grace dead []) := by
  have hll := hc.l
  generalize RO = R
  simp [p5_6, stK]
  refine awpR_loop (α := Nat) (fun i => i ≤ c.length) (fun i => { n := 149, sl := [(0, .sv (.sl 6 (BtL l))), (1, .sv (.int .i64 now)), (2, .sv (.int .i64 grace)), (8, .sv (.bool dead)), (11, .sv (.sl 6 (BtL c))), (12, .own 1 (KL (keyL (c.take i)))), (13, .sv (.int .i64 i))], bx := [], hp := fun _ => none })
    (fun i => c.length - i) 0 (Nat.zero_le _) (by simp [KL, keyL, prs]) ?_
  rintro i hi
  by_cases h : i < c.length
  · have hlt : (i : Int) < c.length := by omega
    have hw := wrap_succ h (by omega : c.length < 4611686018427387904)
    have hg1 := BtL_get c h
    have e1 : (BtL c)[i]'(by simpa using h) = (c.getD i bat0).sv := by rw [← hg1, List.getElem?_eq_getElem]; rfl
    have hkt := keyL_take c h
    have hxl : (c.getD i bat0).rs.length ≤ 50000 := by
      have := Nat.le_trans (prs_len h (Nat.le_refl _)) hc.n
      rw [List.length_append, pr1_len] at this
      omega
    have hnew := fun k (hk : k < (c.getD i bat0).rs.length) => key_new hn h hk
    have hlen := fun k (hk : k ≤ (c.getD i bat0).rs.length) => Nat.le_trans (key_len h hk) hc.n
    generalize c.getD i bat0 = x at *
    generalize keyL (c.take i) = k0 at *
    simp [hlt, h, hg1, e1, Bat.sv, Bat.cells]
    refine awpR_loop (α := Nat) (fun k => k ≤ x.rs.length) (fun k => { n := 149, sl := [(0, .sv (.sl 6 (BtL l))), (1, .sv (.int .i64 now)), (2, .sv (.int .i64 grace)), (8, .sv (.bool dead)), (11, .sv (.sl 6 (BtL c))), (12, .own 1 (KL (k0 ++ keyR (x.rs.take k)))), (13, .sv (.int .i64 i)), (14, .sv (.int .i64 k))], bx := [], hp := fun _ => none })
      (fun k => x.rs.length - k) 0 (Nat.zero_le _) (by simp [keyR]) ?_
    rintro k hk
    by_cases h2 : k < x.rs.length
    · have hlt2 : (k : Int) < x.rs.length := by omega
      have hw2 := wrap_succ h2 (by omega : x.rs.length < 4611686018427387904)
      have hg2 := RcL_get x.rs h2
      have e2 : (RcL x.rs)[k]'(by simpa using h2) = (x.rs.getD k rec0).sv := by rw [← hg2, List.getElem?_eq_getElem]; rfl
      have hks := keyR_succ x.rs h2
      have hnw := hnew k h2
      have hle := hlen k hk
      generalize x.rs.getD k rec0 = r at *
      have hks2 : k0 ++ keyR (x.rs.take (k + 1)) = (k0 ++ keyR (x.rs.take k)) ++ (if r.kd = true then [r.key] else []) := by rw [hks, List.append_assoc]
      generalize k0 ++ keyR (x.rs.take k) = ks at *
      simp [hlt, h, hg1, e1, hlt2, h2, hg2, e2, Bat.sv, Bat.cells, Rec.sv, Rec.cells]
      refine awpR_loop (α := Nat) (fun m => m ≤ ks.length) (fun m => { n := 149, sl := [(0, .sv (.sl 6 (BtL l))), (1, .sv (.int .i64 now)), (2, .sv (.int .i64 grace)), (8, .sv (.bool dead)), (11, .sv (.sl 6 (BtL c))), (12, .own 1 (KL ks)), (13, .sv (.int .i64 i)), (14, .sv (.int .i64 k)), (15, .lptr 15 0), (16, .sv (.int .i64 m))], bx := [(15, [.sv (.int .i64 r.dl), .sv (.int .i64 r.tm), .sv (.bool r.kd), .sv (.str r.key), .sv (.bool r.dd), .sv (.str r.val)])], hp := fun _ => none })
        (fun m => ks.length - m) 0 (Nat.zero_le _) (by simp) ?_
      rintro m hm
      cases hkd : r.kd with
      | false =>
        have hk3 : k0 ++ keyR (x.rs.take (k + 1)) = ks := by rw [hks2, hkd]; simp
        by_cases h3 : m < ks.length
        · have hlt3 : (m : Int) < ks.length := by omega
          simp [hlt3, h3, hkd, hw2]
          exact ⟨k + 1, by omega, by omega, by rw [hk3], by omega⟩
        · have hlt3 : ¬ (m : Int) < ks.length := by omega
          simp [hlt3, h3, hkd, hw2]
          exact ⟨k + 1, by omega, by omega, by rw [hk3], by omega⟩
      | true =>
        by_cases h3 : m < ks.length
        · have hlt3 : (m : Int) < ks.length := by omega
          have hw3 := wrap_succ h3 (by omega : ks.length < 4611686018427387904)
          have hg3 := KL_get ks h3
          have e3 : (KL ks)[m]'(by simpa using h3) = .str (ks.getD m ⟨#[]⟩) := by rw [← hg3, List.getElem?_eq_getElem]; rfl
          have hne : ¬ (ks.getD m ⟨#[]⟩).toList = r.key.toList := fun e => hnw hkd _ (by rw [List.getD_eq_getElem?_getD, List.getElem?_eq_getElem h3]; exact List.getElem_mem h3) (tl_inj e)
          generalize ks.getD m ⟨#[]⟩ = km at *
          simp [hlt3, h3, hkd, hg3, e3, hne, hw3]
          exact ⟨m + 1, by omega, by omega, by omega⟩
        · have hlt3 : ¬ (m : Int) < ks.length := by omega
          have hk3 : KL (k0 ++ keyR (x.rs.take (k + 1))) = KL ks ++ [.str r.key] := by rw [hks2, hkd, ← KL_snoc]; rfl
          simp [hlt3, h3, hkd, hw2]
          exact ⟨by omega, k + 1, by omega, by omega, by rw [hk3], by omega⟩
    · obtain rfl : k = x.rs.length := by omega
      have hlt2 : ¬ ((x.rs.length : Nat) : Int) < x.rs.length := by omega
      rw [List.take_length, ← hkt]
      simp [hlt, h, hg1, e1, hlt2, Bat.sv, Bat.cells, hw]
      exact ⟨i + 1, by omega, by omega, by simp, by omega⟩
  · obtain rfl : i = c.length := by omega
    have hlt : ¬ ((c.length : Nat) : Int) < c.length := by omega
    rw [List.take_length]
    simp [hlt]
end Go.Proofs.Ytikidcgnbcibpaa

/- Compact: CompactOnce (the walk). -/

set_option linter.unusedSimpArgs false
set_option linter.unusedVariables false
set_option maxRecDepth 100000
set_option maxHeartbeats 40000000
namespace Go.Proofs.Ytikidcgnbcibpaa
open Go.RowKit
open Go.Av Go.Cp
def stD (l c : List Bat) (now grace : Int) (dead : Bool) : St := { n := 149, sl := [(0, .sv (.sl 6 (BtL l))), (1, .sv (.int .i64 now)), (2, .sv (.int .i64 grace)), (8, .sv (.bool dead)), (11, .sv (.sl 6 (BtL c)))], bx := [], hp := fun _ => none }
theorem SW.run {P : Program} {w0 : World} {mu0 : Mem} {n : Nat} {st : St} {x y : Code} {G : St → Prop} {Q' : Exit → Act → World → Prop} (h : SW P w0 mu0 n x (fun e st' => e = .normal ∧ G st') st)
    (k : ∀ g st' a w, Sim w0 mu0 Tc.none g st' a w → st'.n = n → G st' → y.wp P Q' a w) {g : Gh} {a : Act} {w : World} (hs : Sim w0 mu0 Tc.none g st a w) (hn : st.n = n) : (x.seq y).wp P Q' a w := by
  refine wp_seq (wp_mono (h g a w hs hn) fun e a' w' hp => ?_)
  cases e with
  | normal => obtain ⟨g', st', q1, q2, q3, q4⟩ := hp; exact k g' st' a' w' q1 q2 q4
  | exit id => obtain ⟨g', st', q1, q2, q3, q4⟩ := hp; cases q3
  | ret => obtain ⟨g', st', q1, q2, q3, q4⟩ := hp; cases q3
  | goto l => exact hp.elim
  | panic ch => exact hp.elim
  | outgrown => exact hp.elim
theorem once_law {mu : Mem} {w0 : World} (hm : MemOK mu w0) {l : List Bat} {lp : Option Addr} {lc : Nat} (hr : Rep mu (.sl 6 (BtL l)) (.slice lp l.length lc)) (hok : ∀ b ∈ l, Bc.bok b) (now grace : Int) :
    Calls Try.prog 5 #[.slice lp l.length lc, .int .i64 now, .int .i64 grace] w0 (LawP w0) := by
  have HA := asideI awake_raw
  have HMM := asideI (fun (W : World) (k : Ext (fun _ => False) w0 W) => memX hm k (fun _ e => e.elim))
  have HR := asideI hr
  have HLI := asideI (light_at hm hr)
  have HK := asideI hok
  clear hm hr hok
  cases hL : lightL l with
  | false =>
    rw [hL] at HLI
    clear hL
    go_enter Try.func5, Try.ntmps5
    go_wp2_with (first
      | (go_at_call 7; refine (HA.out _).mono ?_; rintro e w2 ⟨rfl, hx⟩; have HX2 := asideI (HX1.out.trans hx); clear hx; simp only [])
      | (go_at_call 6; refine HLI.out.mono ?_; rintro e w1 ⟨rfl, hx⟩; have HX1 := asideI hx; clear hx; simp only [])
      | go_in)
    go_ret
    exact ⟨rfl, HX2.out⟩
  | true =>
    rw [hL] at HLI
    have HL := asideI hL
    have HOK := asideI (light_ok hL)
    clear hL
    go_enter Try.func5, Try.ntmps5
    go_wp2_with (first
      | (go_at_call 6; refine HLI.out.mono ?_; rintro e w1 ⟨rfl, hx⟩; have HX1 := asideI hx; clear hx; simp only [])
      | go_in)
    rename_i K hK
    have hmw1 := HMM.out _ HX1.out
    refine wp_mono ((SW.ac RO_ok (ac := p5_l) (by kernel_rfl) (once_look HL.out HK.out now grace) : SW Try.prog w1 mu 149 _ (OnceQ l now grace) (stA l now grace 0 0 false)) (g0 mu w1) _ _ ?hsim rfl) ?hK
    case hsim =>
      refine sim_start (n := 149) hmw1 rfl rfl (sl := (stA l now grace 0 0 false).sl) (fun p hp => ?_)
      simp only [stA, List.mem_cons, List.not_mem_nil, or_false] at hp
      rcases hp with rfl | rfl | rfl | rfl | rfl | rfl
      · exact HR.out
      · exact .int _ _
      · exact .int _ _
      · exact .int _ _
      · exact .bool _
      · exact .int _ _
    case hK =>
      intro e a' w' hp
      cases e with
      | normal => obtain ⟨g', st', q1, q2, q3⟩ := hp; exact q3.elim
      | ret =>
        obtain ⟨g', st', q1, q2, q3⟩ := hp
        have hpo : Post w1 mu Tc.none 149 (Done [.t 6] (.sv (.bool true))) .ret a' w' := ⟨g', st', q1, q2, q3⟩
        exact end_true (fn := Try.f5) (rs := [.t 6]) (by kernel_rfl) (by decide) HX1.out hpo
      | goto l => exact hp.elim
      | panic ch => exact hp.elim
      | outgrown => exact hp.elim
      | exit id =>
        obtain ⟨g', st', q1, q2, q3⟩ := hp
        match id, q3 with
        | 0, ⟨dead, hwk, ⟨next, hrise⟩, hdead⟩ =>
          refine hK a' w' ?_
          clear hK
          have hcl := HOK.out.clean now grace
          refine SW.run (G := fun st' => Wk st' (stD l (cleanS l now grace) now grace dead)) (st := stC l now grace dead) (SW.ac RO_ok (ac := p5_4) (by kernel_rfl) ?_) (fun g2 st2 a2 w2 s1 s2 s3 => ?_) (q1.wk hwk) (hwk.1.trans q2)
          · have r12 := RO_12
            have hlo := HOK.out
            generalize RO = R at r12
            simp [p5_4, stC, r12, hlo, stD]
          refine SW.run (G := fun st' => Wk st' (stK l (cleanS l now grace) now grace dead [])) (st := stD l (cleanS l now grace) now grace dead) (SW.ac RO_ok (ac := p5_5) (by kernel_rfl) ?_) (fun g3 st3 a3 w3 t1 t2 t3 => ?_) (s1.wk s3) (s3.1.trans s2)
          · generalize RO = R
            simp [p5_5, stD, stK, KL]
          refine SW.run (G := fun st' => Wk st' (stK l (cleanS l now grace) now grace dead (keyL (cleanS l now grace)))) (st := stK l (cleanS l now grace) now grace dead []) (SW.ac RO_ok (ac := p5_6) (by kernel_rfl) (once_keys hcl (by rw [← cleanT_prs]; exact keys_once hrise now grace) now grace dead)) (fun g st4 a w v1 v2 v3 => ?_) (t1.wk t3) (t3.1.trans t2)
          have hs := v1.wk v3
          have hx1w : Ext (fun _ => False) w1 w := hs.ext.mono (fun k hk => by rcases hk with ⟨s, hs⟩ | hk; cases hs; exact hk)
          have ha := lit149 a (hs.size.trans rfl) hs.defers
          have hr0 := (show Rep g.mu (.sl 6 (BtL l)) (slotv a 0) from hs.slots 0)
          obtain ⟨lp2, lc2, h0⟩ := sl_shape hr0
          rw [BtL_length] at h0
          rw [h0] at hr0
          have h1 : slotv a 1 = .int .i64 now := Rep.inv_int (show Rep g.mu (.int .i64 now) (slotv a 1) from hs.slots 1)
          have h2 : slotv a 2 = .int .i64 grace := Rep.inv_int (show Rep g.mu (.int .i64 grace) (slotv a 2) from hs.slots 2)
          have h8 : slotv a 8 = .bool dead := Rep.inv_bool (show Rep g.mu (.bool dead) (slotv a 8) from hs.slots 8)
          have hrc := (show Rep g.mu (.sl 6 (BtL (cleanS l now grace))) (slotv a 11) from hs.slots 11)
          obtain ⟨cp, cc, h11⟩ := sl_shape hrc
          rw [BtL_length] at h11
          rw [h11] at hrc
          have hrk := OwnAt.share (show OwnAt g w (.slot 12 0) 1 (KL (keyL (cleanS l now grace))) (slotv a 12) from hs.slots 12)
          obtain ⟨kp, kc, h12⟩ := sl_shape hrk
          rw [KL_length] at h12
          have HMW := asideI (fun (W : World) (k : Ext (fun _ => False) w W) => memX hs.mem k (fun _ e => e.elim))
          have HBW := asideI (bats_of hs.mem hr0)
          have HRC := asideI hrc
          have HCL := asideI hcl
          have HXW := asideI (HX1.out.trans hx1w)
          have hkle := keys_le hrise now grace
          have hkeq := keys_eq hrise now grace
          rw [cleanT_prs] at hkle hkeq
          have hdz := clean_dirty (l := l) now grace
          have hnd : dead = false → ∀ p ∈ prs l, p.2.dd = false := fun hd p hp => by
            rw [hd] at hdead
            have := hdead.symm
            unfold deadL at this
            rw [List.any_eq_false] at this
            simpa using this p hp
          generalize (keyL (cleanS l now grace)).length = nk at *
          generalize hcs : cleanS l now grace = c at *
          rw [ha, h0, h1, h2, h8, h11, h12]
          clear ha h0 h1 h2 h8 h11 h12 hrk hrc hr0 hx1w hs v1 v2 v3 hcl hcs t1 t2 t3 s1 s2 s3 hwk hrise q1 q2
          cases dead with
          | true =>
            have hk2 : (nk : Int) ≤ ((keysP (prs l)).length : Int) := by omega
            clear hkeq hdz hnd hdead hkle
            go_wp2_with (first
              | (go_at_call 7; refine (HA.out _).mono ?_; rintro e w6 ⟨rfl, hx⟩; have HX6 := asideI (HX5.out.trans hx); clear hx; simp only [])
              | (go_at_call 8
                 refine (last_raw (lc := lc2) HBW.out HOK.out).mono ?_
                 rintro e w5 ⟨mb, nn, rfl, hmb, hm2, hx⟩
                 have hln := fun ty => hm2.len ty
                 have HX5 := asideI hx
                 clear hx hm2 hmb
                 simp only [])
              | go_in)
            go_ret
            exact ⟨rfl, HXW.out.trans HX6.out⟩
          | false =>
            have hd0 := hnd rfl
            have hk3 := hkeq hd0
            have hk2 : (nk : Int) ≤ ((keysP (prs l)).length : Int) := by omega
            have hdf := hdz hd0
            clear hkeq hdz hnd hdead hkle hd0
            subst hk3
            clear hk2
            generalize hq : (keysP (prs l)).length = nk
            have HQ := asideI hq
            clear hq
            go_wp2_with (first
              | (go_at_call 7; refine (HA.out _).mono ?_; rintro e w8 ⟨rfl, hx⟩; have HX8 := asideI (HX7.out.trans hx); clear hx; simp only [])
              | (go_at_call 16
                 refine (dirty_at (HMW.out _ HX6.out) HRC.out HCL.out now grace).mono ?_
                 rintro e w7 ⟨rfl, hx⟩
                 rw [hdf]
                 have HX7 := asideI (HX6.out.trans hx)
                 clear hx
                 simp only [])
              | (go_at_call 8
                 have hmk := HT1
                 refine (last_raw (lc := lc2) (HBW.out.ext HX5.out) HOK.out).mono ?_
                 rintro e w6 ⟨mb2, nn2, rfl, hmb, hm2, hx⟩
                 have hln2 := fun ty => hm2.len ty
                 rw [HQ.out] at hln2
                 have HX6 := asideI (HX5.out.trans hx)
                 clear hx hm2 hmb
                 simp only [])
              | (go_at_call 8
                 refine (last_raw (lc := lc2) HBW.out HOK.out).mono ?_
                 rintro e w5 ⟨mb, nn, rfl, hmb, hm2, hx⟩
                 have hln := fun ty => hm2.len ty
                 rw [HQ.out] at hln
                 have HX5 := asideI hx
                 have HT1 : Aside True := trivial
                 clear hx hm2 hmb
                 simp only [])
              | go_in)
            go_ret
            exact ⟨rfl, HXW.out.trans HX8.out⟩
        | n + 1, q3 => exact q3.elim
end Go.Proofs.Ytikidcgnbcibpaa

/- Compact: CompactOnce, the law; what fits. -/


set_option linter.unusedSimpArgs false
set_option linter.unusedVariables false
set_option maxHeartbeats 4000000
namespace Go.Proofs.Ytikidcgnbcibpaa

open Go.Av Go.Cp
theorem law_once (l : List Bat) (hok : ∀ b ∈ l, Bc.bok b) (now grace : Int) : Pure Try.prog 5 [.sl 6 (BtL l), .int .i64 now, .int .i64 grace] (.sv (.bool true)) := by
  refine pure_true fun mu w vs hm hr => ?_
  match vs, hr.1 with
  | [lv, nv, gv], _ =>
    have h0 : Rep mu (.sl 6 (BtL l)) lv := hr.2 0 (by simp)
    have e1 : nv = .int .i64 now := Rep.inv_int (show Rep mu (.int .i64 now) nv from hr.2 1 (by simp))
    have e2 : gv = .int .i64 grace := Rep.inv_int (show Rep mu (.int .i64 grace) gv from hr.2 2 (by simp))
    obtain ⟨lp, lc, rfl⟩ := sl_shape h0
    rw [BtL_length] at h0 ⊢
    subst e1 e2
    exact once_law hm h0 hok now grace
theorem wf64 {n : Int} (h : (Lit.int .i64 n).wf = true) : Bc.I64 n := by
  simp [Lit.wf, IntKind.min, IntKind.max, IntKind.signed, IntKind.bits] at h
  exact ⟨by omega, by omega⟩
theorem has_bats2 : ∀ {xs : List SV}, (∀ x ∈ xs, x = mkE x.cells ∧ shB.has x.cells) → ∃ l : List Bat, (∀ b ∈ l, Bc.bok b) ∧ xs.length = l.length ∧ ∀ i j, i < xs.length → j < 6 → WkM ((xs.getD i .undef).cell j) (((BtL l).getD i .undef).cell j)
  | [], _ => ⟨[], (fun b h => by cases h), rfl, fun i j hi => by simp at hi⟩
  | x :: xs, h => by
    obtain ⟨l, hok, hl, hw⟩ := has_bats2 (xs := xs) (fun y hy => h y (by simp [hy]))
    obtain ⟨he, hx⟩ := h x (by simp)
    simp only [Sh.has, Sh.hasL] at hx
    obtain ⟨_, _, e1, ⟨ba, rfl, w1⟩, _, _, rfl, ⟨co, rfl, w2⟩, _, _, rfl, ⟨pr, rfl, w3⟩, _, _, rfl, ⟨ep, rfl, w4⟩, _, _, rfl, ⟨sq, rfl, w5⟩, x6, _, rfl, h6, rfl⟩ := hx
    obtain ⟨x', rs, hx6, hwr⟩ : ∃ (x' : SV) (rs : List Rec), x6 = [x'] ∧ WkM x' (.sl 6 (RcL rs)) := by
      rcases h6 with rfl | ⟨ys, rfl, _, hy⟩
      · exact ⟨.nils, [], rfl, wkM_nils 6⟩
      · obtain ⟨rs, rfl⟩ := has_recs (xs := ys) (fun x hm => by have := hy x hm; simp only [Sh.has, Sh.hasL]; exact this)
        exact ⟨_, rs, rfl, WkM.refl _⟩
    subst hx6
    rw [e1] at he
    simp only [List.singleton_append, mkE] at he
    subst he
    refine ⟨⟨ba, co, pr, ep, sq, rs⟩ :: l, fun b hb => ?_, by simp [hl], fun i j hi hj => ?_⟩
    · rcases List.mem_cons.1 hb with rfl | hb
      · exact ⟨wf64 w1, wf64 w2, wf64 w3, wf64 w4, wf64 w5⟩
      · exact hok b hb
    · cases i with
      | zero =>
        match j, hj with
        | 0, _ => exact WkM.refl _
        | 1, _ => exact WkM.refl _
        | 2, _ => exact WkM.refl _
        | 3, _ => exact WkM.refl _
        | 4, _ => exact WkM.refl _
        | 5, _ => exact hwr
      | succ i => exact hw i j (by simpa using hi) hj
theorem has_batsV2 {v : SV} (h : (Sh.sl shB).hasV v) : ∃ l : List Bat, (∀ b ∈ l, Bc.bok b) ∧ WkM v (.sl 6 (BtL l)) := by
  have h' : (Sh.sl shB).has [v] := h
  unfold Sh.has at h'
  rcases h' with e | ⟨xs, e, _, hx⟩
  · cases e; exact ⟨[], (fun b h => by cases h), wkM_nils 6⟩
  · cases e
    obtain ⟨l, hok, hl, hw⟩ := has_bats2 hx
    exact ⟨l, hok, wkM_sl (by rw [hl, BtL_length]) (fun y hy => by obtain ⟨b, _, rfl⟩ := List.mem_map.1 hy; rfl) hw⟩
end Go.Proofs.Ytikidcgnbcibpaa
