/- The machine's operations do what those over plain values do: slices, function values, built-ins. No condition. -/
import Derived.Test.YtamdidmfcjdcgaaD12
set_option linter.unusedVariables false
set_option linter.unusedSectionVars false
set_option linter.unusedSimpArgs false
set_option linter.constructorNameAsVariable false
namespace Go.Proofs.Ytamdidmfcjdcgaa.D
open Go Go.RowKit

section
variable {P : Program} {n0 : Nat} {w : World} {own : Nat → Option Nat} {loc : Loc} {ob : OB} {nid : Nat} [Bk]

theorem snd_slice {dst : Option Tmp} {ty : TypeId} {pos : String} {after : Array Edge} {guard : Option (Nat × Bool)} (t : TypeId) (x : Operand) (lo hi mx : Option Operand) {h op : Ok} {xs : List Operand} (hc : compOp P ⟨dst, .slice t x lo hi mx, ty, pos, after, guard⟩ h = some (op, xs)) {ρ : Operand → Value} {vs : List V} {r : V} {us : Ups} {ob0 : OB}
    (hwf : WF n0 w own loc ob) (hn0 : n0 ≤ w.heap.size) (hnid : loc nid = none) (hsub : ∀ id o, ob0 id = some o → ob id = some o)
    (hv : RVs w (okf own n0 w.heap.size) loc vs (xs.map ρ)) (hop : opF op vs ob0 nid = some (r, us)) : Does P n0 w own loc ob nid (execOp ρ ⟨dst, .slice t x lo hi mx, ty, pos, after, guard⟩) r us := by
  cases mx with
  | none =>
    simp only [compOp] at hc
    obtain ⟨k, hk, hc⟩ := Option.map_eq_some_iff.1 hc
    injection hc with h1 h2; subst h1; subst h2
    have fin : ∀ (v : V) (lo' hi' : Option Int) (v' : V), sliceV ob0 k v lo' hi' = some v' → (∀ n, lo' = some n → ∃ kk, lo.map ρ = some (.int kk n)) → (lo' = none → lo.map ρ = none) → (∀ n, hi' = some n → ∃ kk, hi.map ρ = some (.int kk n)) → (hi' = none → hi.map ρ = none) →
        RV w (okf own n0 w.heap.size) loc v (ρ x) → r = v' → us = [] → Does P n0 w own loc ob nid (execOp ρ ⟨dst, .slice t x lo hi none, ty, pos, after, guard⟩) r us := by
      rintro v lo' hi' v' hs a1 a2 a3 a4 hx rfl rfl
      obtain ⟨y, h3, h4⟩ := slice_rv (P := P) hwf hk a1 a2 a3 a4 hx (sliceV_sub hsub hs)
      exact .of_same hwf (s := Instr.sliceAt t (ρ x) (lo.map ρ) (hi.map ρ) none) h3 h4
    cases lo with
    | none =>
      cases hi with
      | none =>
        obtain ⟨v, rfl, hx⟩ := rvs1 (by simpa using hv)
        simp only [opF, Option.isSome_none] at hop
        obtain ⟨v', hl, hop⟩ := Option.map_eq_some_iff.1 hop
        injection hop with h5 h6
        exact fin v none none v' hl (fun n h => by cases h) (fun _ => rfl) (fun n h => by cases h) (fun _ => rfl) hx h5.symm h6.symm
      | some hi =>
        obtain ⟨v, v2, rfl, hx, hy⟩ := rvs2 (by simpa using hv)
        simp only [opF, Option.isSome_none, Option.isSome_some] at hop
        obtain ⟨b, hb, hop⟩ := Option.bind_eq_some_iff.1 hop
        obtain ⟨v', hl, hop⟩ := Option.map_eq_some_iff.1 hop
        injection hop with h5 h6
        obtain ⟨kk, hkk⟩ := toInt_inv hb
        rw [hkk] at hy
        exact fin v none (some b) v' hl (fun n h => by cases h) (fun _ => rfl) (fun n h => by injection h with h; subst h; exact ⟨kk, by simp [hy.c_inv]⟩) (fun h => by cases h) hx h5.symm h6.symm
    | some lo =>
      cases hi with
      | none =>
        obtain ⟨v, v2, rfl, hx, hy⟩ := rvs2 (by simpa using hv)
        simp only [opF, Option.isSome_none, Option.isSome_some] at hop
        obtain ⟨b, hb, hop⟩ := Option.bind_eq_some_iff.1 hop
        obtain ⟨v', hl, hop⟩ := Option.map_eq_some_iff.1 hop
        injection hop with h5 h6
        obtain ⟨kk, hkk⟩ := toInt_inv hb
        rw [hkk] at hy
        exact fin v (some b) none v' hl (fun n h => by injection h with h; subst h; exact ⟨kk, by simp [hy.c_inv]⟩) (fun h => by cases h) (fun n h => by cases h) (fun _ => rfl) hx h5.symm h6.symm
      | some hi =>
        obtain ⟨v, v2, v3, rfl, hx, hy, hz⟩ := rvs3 (by simpa using hv)
        simp only [opF, Option.isSome_some] at hop
        obtain ⟨b, hb, hop⟩ := Option.bind_eq_some_iff.1 hop
        obtain ⟨c, hcc, hop⟩ := Option.bind_eq_some_iff.1 hop
        obtain ⟨v', hl, hop⟩ := Option.map_eq_some_iff.1 hop
        injection hop with h5 h6
        obtain ⟨kk, hkk⟩ := toInt_inv hb
        obtain ⟨kc, hkc⟩ := toInt_inv hcc
        rw [hkk] at hy
        rw [hkc] at hz
        exact fin v (some b) (some c) v' hl (fun n h => by injection h with h; subst h; exact ⟨kk, by simp [hy.c_inv]⟩) (fun h => by cases h) (fun n h => by injection h with h; subst h; exact ⟨kc, by simp [hz.c_inv]⟩) (fun h => by cases h) hx h5.symm h6.symm
  | some mx =>
    cases lo with
    | none => simp [compOp] at hc
    | some lo =>
      cases hi with
      | none => simp [compOp] at hc
      | some hi =>
        simp only [compOp] at hc
        obtain ⟨k, hk, hc⟩ := Option.map_eq_some_iff.1 hc
        injection hc with h1 h2; subst h1; subst h2
        obtain ⟨v, v2, v3, v4, rfl, hx, hy, hz, hq⟩ := rvs4 hv
        simp only [opF] at hop
        obtain ⟨a, ha, hop⟩ := Option.bind_eq_some_iff.1 hop
        obtain ⟨b, hb, hop⟩ := Option.bind_eq_some_iff.1 hop
        obtain ⟨c, hcc, hop⟩ := Option.bind_eq_some_iff.1 hop
        obtain ⟨n, hn, hop⟩ := Option.bind_eq_some_iff.1 hop
        split at hop
        case isFalse => cases hop
        rename_i hcond
        injection hop with hop; injection hop with h5 h6; subst h5; subst h6
        obtain ⟨ka, hka⟩ := toInt_inv ha
        obtain ⟨kb, hkb⟩ := toInt_inv hb
        obtain ⟨kc, hkc⟩ := toInt_inv hcc
        rw [hka] at hy; rw [hkb] at hz; rw [hkc] at hq
        obtain ⟨e, i, hu, hii, hik⟩ := elSz_spec hk
        have hsl : (∃ aa cap, ρ x = .slice aa n cap ∧ n ≤ cap) := by
          clear hop hv
          generalize ρ x = xr at hx
          unfold lenS at hn
          split at hn
          · injection hn with hn; subst hn
            cases hx with
            | e f a cap h => exact ⟨_, _, rfl, Nat.zero_le _⟩
            | im f l k b off n cap ys hn hk hc ho h0 h => subst hn; exact ⟨_, _, rfl, hc⟩
          · injection hn with hn; subst hn
            obtain ⟨aa, e⟩ := hx.z_inv
            exact ⟨aa, 0, e, Nat.le_refl _⟩
          · obtain ⟨X, hX, hn⟩ := Option.map_eq_some_iff.1 hn
            subst hn
            obtain ⟨p, hp, hor, hcp, e⟩ := sl_at hwf (hsub _ X hX) hx
            exact ⟨_, _, e, by omega⟩
          · cases hn
        obtain ⟨aa, cap, hxe, hcap⟩ := hsl
        refine .of_same hwf (s := Instr.sliceAt t (ρ x) (some (ρ lo)) (some (ρ hi)) (some (ρ mx))) (y := .slice (if c.toNat = a.toNat then aa else aa.map (·.add (a.toNat * k))) (b.toNat - a.toNat) (c.toNat - a.toNat)) ?_ (.u _)
        rw [hxe, hy.c_inv, hz.c_inv, hq.c_inv]
        obtain ⟨h0, h1, h2, h3⟩ := hcond
        have e1 : 0 ≤ c ∧ c ≤ (cap : Int) := ⟨by omega, by omega⟩
        have e2 : 0 ≤ b ∧ b ≤ ((c.toNat : Nat) : Int) := ⟨by omega, by omega⟩
        have e3 : 0 ≤ a ∧ a ≤ ((b.toNat : Nat) : Int) := ⟨by omega, by omega⟩
        simp only [Instr.sliceAt, Instr.slice, Sem.run_bind, run_underlying hu, Result.andThen_ok, Instr.sliceBounds, Instr.sliceBound, asIntOf, Sem.run_pure, Sem.run_ite, e1, e2, e3, and_self, if_true, size_of hii, hik]

theorem snd_makeFunc {dst : Option Tmp} {ty : TypeId} {pos : String} {after : Array Edge} {guard : Option (Nat × Bool)} (fn : Fn) (first caps : Array Operand) {h op : Ok} {xs : List Operand} (hc : compOp P ⟨dst, .makeFunc fn first caps, ty, pos, after, guard⟩ h = some (op, xs)) {ρ : Operand → Value} {vs : List V} {r : V} {us : Ups} {ob0 : OB}
    (hwf : WF n0 w own loc ob) (hn0 : n0 ≤ w.heap.size) (hnid : loc nid = none) (hsub : ∀ id o, ob0 id = some o → ob id = some o)
    (hv : RVs w (okf own n0 w.heap.size) loc vs (xs.map ρ)) (hop : opF op vs ob0 nid = some (r, us)) : Does P n0 w own loc ob nid (execOp ρ ⟨dst, .makeFunc fn first caps, ty, pos, after, guard⟩) r us := by
  cases fn <;> simp only [compOp] at hc
  all_goals first | (cases hc; done) | skip
  split at hc
  case isFalse => cases hc
  rename_i hf
  injection hc with hc; injection hc with h1 h2; subst h1; subst h2
  simp only [opF] at hop
  injection hop with hop; injection hop with h5 h6; subst h5; subst h6
  have hfe : first = #[] := Array.eq_empty_of_size_eq_zero hf
  subst hfe
  refine .of_same hwf (s := Instr.makeFunc _ (#[].map ρ) (caps.map ρ)) (y := .func (.func _) #[] (caps.toList.map ρ).toArray) ?_ (.fn _ _ _ hv.1 hv.2)
  have e : caps.map ρ = (caps.toList.map ρ).toArray := by apply Array.ext'; simp
  simp [Instr.makeFunc, e]

theorem exec_bi {dst : Option Tmp} {ty : TypeId} {pos : String} {after : Array Edge} {guard : Option (Nat × Bool)} (b : Builtin) (args : Array Operand) (argTypes : Array TypeId) (ρ : Operand → Value) :
    execOp ρ ⟨dst, .call ⟨.builtin b, args, argTypes⟩, ty, pos, after, guard⟩ = builtin b argTypes ty (args.map fun | .const _ => true | _ => false) (args.map ρ) := by
  simp only [execOp, resolve, invoke]
  rfl

/-- The machine's built-ins. -/
theorem snd_call {dst : Option Tmp} {ty : TypeId} {pos : String} {after : Array Edge} {guard : Option (Nat × Bool)} (c : Call) {h op : Ok} {xs : List Operand} (hc : compOp P ⟨dst, .call c, ty, pos, after, guard⟩ h = some (op, xs)) {ρ : Operand → Value} {vs : List V} {r : V} {us : Ups} {ob0 : OB}
    (hwf : WF n0 w own loc ob) (hn0 : n0 ≤ w.heap.size) (hnid : loc nid = none) (hsub : ∀ id o, ob0 id = some o → ob id = some o)
    (hv : RVs w (okf own n0 w.heap.size) loc vs (xs.map ρ)) (hop : opF op vs ob0 nid = some (r, us)) : Does P n0 w own loc ob nid (execOp ρ ⟨dst, .call c, ty, pos, after, guard⟩) r us := by
  obtain ⟨cal, args, argTypes⟩ := c
  cases cal with
  | value f => simp [compOp] at hc
  | invoke a b => simp [compOp] at hc
  | builtin b =>
  have two : ∀ {a : Array Operand}, a.size = 2 → ∃ x y, a = #[x, y] := fun {a} h => ⟨a[0], a[1], by
    apply Array.ext (by simpa using h)
    intro i h1 h2
    simp at h2
    rcases (by omega : i = 0 ∨ i = 1) with rfl | rfl <;> rfl⟩
  have one : ∀ {a : Array Operand}, a.size = 1 → ∃ x, a = #[x] := fun {a} h => ⟨a[0], by
    apply Array.ext (by simpa using h)
    intro i h1 h2
    simp at h2
    obtain rfl : i = 0 := by omega
    rfl⟩
  cases b <;> simp only [compOp] at hc
  all_goals first | (cases hc; done) | skip
  case len =>
    obtain ⟨t, ht, hc⟩ := Option.bind_eq_some_iff.1 hc
    split at hc
    case isFalse => cases hc
    rename_i hcond
    obtain ⟨x, rfl⟩ := one hcond
    obtain ⟨op', hop', hc⟩ := Option.map_eq_some_iff.1 hc
    injection hc with h1 h2; subst h1; subst h2
    obtain ⟨v, rfl, hx⟩ := rvs1 (by simpa using hv)
    rw [exec_bi]
    unfold lenTy at hop'
    split at hop'
    · rename_i e hu
      injection hop' with hop'; subst hop'
      simp only [opF] at hop
      obtain ⟨n, hn, hop⟩ := Option.map_eq_some_iff.1 hop
      injection hop with h5 h6; subst h5; subst h6
      have hx' : ∃ a c, ρ x = .slice a n c := by
        clear hv
        generalize ρ x = xr at hx
        unfold lenOf at hn
        split at hn
        · injection hn with hn; subst hn
          cases hx with
          | e f a cap h => exact ⟨_, _, rfl⟩
          | im f l k b off n cap ys hn hk hc ho h0 h => subst hn; exact ⟨_, _, rfl⟩
        · injection hn with hn; subst hn
          obtain ⟨a, e⟩ := hx.z_inv
          exact ⟨_, _, e⟩
        · injection hn with hn; subst hn
          cases hx with
          | sl _ _ _ a c hl h => exact ⟨_, _, rfl⟩
        · cases hn
      obtain ⟨a, c, hxe⟩ := hx'
      refine .of_same hwf (s := Builtin.len_ argTypes ty (#[x].map ρ)) (y := goInt n) ?_ (.c _)
      simp [Builtin.len_, ht, hxe, run_underlying hu]
    · rename_i hu
      injection hop' with hop'; subst hop'
      simp only [opF] at hop
      obtain ⟨s, hs, hop⟩ := Option.map_eq_some_iff.1 hop
      injection hop with h5 h6; subst h5; subst h6
      have hs' : v = .c (.string s) := by
        unfold toStr at hs
        split at hs
        · injection hs with hs; subst hs; rfl
        · cases hs
      rw [hs'] at hx
      have hxe := hx.c_inv
      refine .of_same hwf (s := Builtin.len_ argTypes ty (#[x].map ρ)) (y := goInt s.size) ?_ (.c _)
      simp [Builtin.len_, ht, hxe, run_underlying hu]
    · cases hop'
  case append =>
    split at hc
    case isFalse => cases hc
    rename_i hcond
    obtain ⟨x, y, rfl⟩ := two hcond
    obtain ⟨k, hk, hc⟩ := Option.map_eq_some_iff.1 hc
    injection hc with h1 h2; subst h1; subst h2
    obtain ⟨v, v2, rfl, hx, hy⟩ := rvs2 (by simpa using hv)
    rw [exec_bi]
    obtain ⟨y', w', own', loc', h3, h4, h5, h6, h7⟩ := append_does hwf hnid hk ty hsub hx hy hop
    exact .of_value (s := Builtin.append_ argTypes ty (#[x, y].map ρ)) (by simpa using h3) h4 h5 h6 h7
  case copy =>
    split at hc
    case isFalse => cases hc
    rename_i hcond
    obtain ⟨x, y, rfl⟩ := two hcond
    obtain ⟨k, hk, hc⟩ := Option.map_eq_some_iff.1 hc
    obtain ⟨t0, ht0, hk⟩ := Option.bind_eq_some_iff.1 hk
    injection hc with h1 h2; subst h1; subst h2
    obtain ⟨v, v2, rfl, hx, hy⟩ := rvs2 (by simpa using hv)
    rw [exec_bi]
    obtain ⟨y', w', h3, h4, h5, h6⟩ := copy_does hwf ht0 hk ty hsub hx hy hop
    exact .of_value (s := Builtin.copy_ argTypes ty (#[x, y].map ρ)) (by simpa using h3) h4 h5 h6 (fun _ _ h => h)
  case clear =>
    split at hc
    case isFalse => cases hc
    rename_i hcond
    obtain ⟨x, rfl⟩ := one hcond
    obtain ⟨t0, ht0, hc⟩ := Option.bind_eq_some_iff.1 hc
    obtain ⟨k, hk, hc⟩ := Option.bind_eq_some_iff.1 hc
    obtain ⟨z, hz, hc⟩ := Option.bind_eq_some_iff.1 hc
    split at hc
    case isFalse => cases hc
    rename_i hok
    injection hc with hc; injection hc with h1 h2; subst h1; subst h2
    obtain ⟨v, rfl, hx⟩ := rvs1 (by simpa using hv)
    rw [exec_bi]
    obtain ⟨y', w', h3, h4, h5, h6⟩ := clear_does hwf ht0 hk hz hok ty hsub hx hop
    exact .of_value (s := Builtin.clear_ argTypes ty (#[x].map ρ)) (by simpa using h3) h4 h5 h6 (fun _ _ h => h)
  case max =>
    split at hc
    case isFalse => cases hc
    rename_i hcond
    obtain ⟨x, y, rfl⟩ := two hcond
    injection hc with hc; injection hc with h1 h2; subst h1; subst h2
    obtain ⟨v, v2, rfl, hx, hy⟩ := rvs2 (by simpa using hv)
    rw [exec_bi]
    simp only [opF] at hop
    obtain ⟨a, ha, hop⟩ := Option.bind_eq_some_iff.1 hop
    obtain ⟨b, hb, hop⟩ := Option.bind_eq_some_iff.1 hop
    obtain ⟨q, hq, hop⟩ := Option.map_eq_some_iff.1 hop
    injection hop with h5 h6; subst h5; subst h6
    rw [toC_inv ha] at hx; rw [toC_inv hb] at hy
    have e1 := hx.c_inv; have e2 := hy.c_inv
    unfold mxS at hq
    split at hq
    · injection hq with hq; subst hq
      exact .of_same hwf (s := Builtin.max_ argTypes ty (#[x, y].map ρ)) (by simp [e1, e2, run_max_int2]) (.c _)
    · cases hq
  case min =>
    split at hc
    case isFalse => cases hc
    rename_i hcond
    obtain ⟨x, y, rfl⟩ := two hcond
    injection hc with hc; injection hc with h1 h2; subst h1; subst h2
    obtain ⟨v, v2, rfl, hx, hy⟩ := rvs2 (by simpa using hv)
    rw [exec_bi]
    simp only [opF] at hop
    obtain ⟨a, ha, hop⟩ := Option.bind_eq_some_iff.1 hop
    obtain ⟨b, hb, hop⟩ := Option.bind_eq_some_iff.1 hop
    obtain ⟨q, hq, hop⟩ := Option.map_eq_some_iff.1 hop
    injection hop with h5 h6; subst h5; subst h6
    rw [toC_inv ha] at hx; rw [toC_inv hb] at hy
    have e1 := hx.c_inv; have e2 := hy.c_inv
    unfold mnS at hq
    split at hq
    · injection hq with hq; subst hq
      exact .of_same hwf (s := Builtin.min_ argTypes ty (#[x, y].map ρ)) (by simp [e1, e2, run_min_int2]) (.c _)
    · cases hq

/-- The machine's operation does what the plain one does. -/
theorem op_sound {o : Oper} {h op : Ok} {xs : List Operand} (hc : compOp P o h = some (op, xs)) {ρ : Operand → Value} {vs : List V} {r : V} {us : Ups} {ob0 : OB}
    (hwf : WF n0 w own loc ob) (hn0 : n0 ≤ w.heap.size) (hnid : loc nid = none) (hsub : ∀ id o, ob0 id = some o → ob id = some o) (hρ : ∀ v, ρ (.const v) = v)
    (hv : RVs w (okf own n0 w.heap.size) loc vs (xs.map ρ)) (hop : opF op vs ob0 nid = some (r, us)) : Does P n0 w own loc ob nid (execOp ρ o) r us := by
  obtain ⟨dst, oo, ty, pos, after, guard⟩ := o
  cases oo
  case move x => exact snd_move x hc hwf hn0 hnid hsub hv hop
  case assign x => exact snd_assign x hc hwf hn0 hnid hsub hv hop
  case pick c a b => exact snd_pick c a b hc hwf hn0 hnid hsub hv hop
  case alloc t => exact snd_alloc t hc hwf hn0 hnid hsub hv hop
  case box t x => exact snd_box t x hc hwf hn0 hnid hsub hv hop
  case build t x => exact snd_build t x hc hwf hn0 hnid hsub hv hop
  case buildSlice t n x => exact snd_buildSlice t n x hc hwf hn0 hnid hsub hv hop
  case load t x => exact snd_load t x hc hwf hn0 hnid hsub hv hop
  case store t a x => exact snd_store t a x hc hwf hn0 hnid hsub hv hop
  case binOp op t x y t2 => exact snd_binOp op t x y t2 hc hwf hn0 hnid hsub hρ hv hop
  case unOp op t x => exact snd_unOp op t x hc hwf hn0 hnid hsub hv hop
  case convert s d x => exact snd_convert s d x hc hwf hn0 hnid hsub hv hop
  case fieldAddr s x f => exact snd_fieldAddr s x f hc hwf hn0 hnid hsub hv hop
  case field t x f => exact snd_field t x f hc hwf hn0 hnid hsub hv hop
  case indexAddr t x i => exact snd_indexAddr t x i hc hwf hn0 hnid hsub hv hop
  case makeSlice t l c => exact snd_makeSlice t l c hc hwf hn0 hnid hsub hv hop
  case extract x i => exact snd_extract x i hc hwf hn0 hnid hsub hv hop
  case slice t x lo hi mx => exact snd_slice t x lo hi mx hc hwf hn0 hnid hsub hv hop
  case makeFunc fn first caps => exact snd_makeFunc fn first caps hc hwf hn0 hnid hsub hv hop
  case call c => exact snd_call c hc hwf hn0 hnid hsub hv hop
  all_goals (simp [compOp] at hc)

end
end Go.Proofs.Ytamdidmfcjdcgaa.D
