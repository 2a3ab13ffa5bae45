/- AuditExact, packed. No condition beyond the statement's own. -/
import Derived.Test.YtbojpedklnmidaaGreatMAuditExactb
import Derived.ProofKit
import Derived.ChangeArms
import Derived.ChangeSlices
import Derived.Test.YtbojpedklnmidaaGreatProg
section
set_option linter.unusedVariables false
set_option linter.unusedSimpArgs false
set_option linter.constructorNameAsVariable false
/- Walking over plain values, step by step. No condition. -/
namespace Go.Proofs.YtbojpedklnmidaaGreat.D
open Go Go.RowKit
def nxS (P : Program) (d : Option Nat) (l : List RO) (nid : Nat) (env : Env) (ob : OB) (J : Env → OB → Nat → Prop) (x : Option (V × Ups)) : Prop :=
  match x with
  | some (r, us) => wpS P l (nid + 1) (put env d r) (apps ob us) J
  | none => False
def nxD (P : Program) (loud : Bool) (d : Option Nat) (l : List RO) (nid : Nat) (env : Env) (ob : OB) (dl : Ups) (K : Env → OB → Prop) (x : Option (V × Ups)) : Prop :=
  match x with
  | some (r, us) => wpD P l (nid + 1) (put env d r) (cond loud (apps ob us) ob) (cond loud dl (dl ++ us)) K
  | none => False
def exS (P : Program) (o : RO) (l : List RO) (nid : Nat) (env : Env) (ob : OB) (J : Env → OB → Nat → Prop) : Prop :=
  stpR P o.op (o.xs.map (ev env)) ob nid fun r ob' n' => wpS P l n' (put env o.d r) ob' J
def exD (P : Program) (o : RO) (l : List RO) (nid : Nat) (env : Env) (ob : OB) (dl : Ups) (K : Env → OB → Prop) : Prop :=
  ∃ r us, OpR P o.op (o.xs.map (ev env)) ob nid r us ∧ wpD P l (nid + 1) (put env o.d r) (if isLoud o.op then apps ob us else ob) (if isLoud o.op then dl else dl ++ us) K
def gS (v : V) (want : Bool) (P : Program) (o : RO) (l : List RO) (nid : Nat) (env : Env) (ob : OB) (J : Env → OB → Nat → Prop) : Prop :=
  ∃ b, v = sk b ∧ (b = some want → exS P o l nid env ob J) ∧ (¬ b = some want → wpS P l (nid + 1) (put env o.d (.c undef)) ob J)
def gD (v : V) (want : Bool) (P : Program) (o : RO) (l : List RO) (nid : Nat) (env : Env) (ob : OB) (dl : Ups) (K : Env → OB → Prop) : Prop :=
  ∃ b, v = sk b ∧ (b = some want → exD P o l nid env ob dl K) ∧ (¬ b = some want → wpD P l (nid + 1) (put env o.d (.c undef)) ob dl K)
theorem sk_b {b : Bool} {w : Bool} {A B : Prop} : (∃ b', V.c (.bool b) = sk b' ∧ (b' = some w → A) ∧ (¬ b' = some w → B)) = ((b = w → A) ∧ (¬ b = w → B)) := by
  apply propext; constructor
  · rintro ⟨b', h1, h2, h3⟩
    cases b' with
    | none => simp [sk, undef] at h1
    | some b' => simp [sk] at h1; subst h1; exact ⟨fun e => h2 (by rw [e]), fun e => h3 (by simpa using e)⟩
  · rintro ⟨h2, h3⟩; exact ⟨some b, rfl, fun e => h2 (by simpa using e), fun e => h3 (by simpa using e)⟩
theorem sk_u {w : Bool} {A B : Prop} : (∃ b', V.c undef = sk b' ∧ (b' = some w → A) ∧ (¬ b' = some w → B)) = B := by
  apply propext; constructor
  · rintro ⟨b', h1, h2, h3⟩
    cases b' with
    | none => exact h3 (by simp)
    | some b' => simp [sk, undef] at h1
  · intro h; exact ⟨none, rfl, fun e => (by cases e), fun _ => h⟩
def caS (P : Program) (f : Nat) (vs : List V) (m : Md) (d : Option Nat) (l : List RO) (nid : Nat) (env : Env) (ob : OB) (J : Env → OB → Nat → Prop) : Prop :=
  ∃ q, FnB P f vs q ∧ impOk m q ∧ nxS P d l nid env ob J (some (imp m nid q))
def caD (P : Program) (f : Nat) (vs : List V) (m : Md) (d : Option Nat) (l : List RO) (nid : Nat) (env : Env) (ob : OB) (dl : Ups) (K : Env → OB → Prop) : Prop :=
  ∃ q, FnB P f vs q ∧ impOk m q ∧ nxD P false d l nid env ob dl K (some (imp m nid q))
def cvS (P : Program) (v : V) (as_ : List V) (m : Md) (d : Option Nat) (l : List RO) (nid : Nat) (env : Env) (ob : OB) (J : Env → OB → Nat → Prop) : Prop :=
  match v with
  | .fn f caps => caS P f ((as_ ++ caps).map (resV ob 6)) m d l nid env ob J
  | _ => False
def cvD (P : Program) (v : V) (as_ : List V) (m : Md) (d : Option Nat) (l : List RO) (nid : Nat) (env : Env) (ob : OB) (dl : Ups) (K : Env → OB → Prop) : Prop :=
  match v with
  | .fn f caps => caD P f ((as_ ++ caps).map (resV ob 6)) m d l nid env ob dl K
  | _ => False
def nxtS (P : Program) (vs : List V) (d : Option Nat) (l : List RO) (nid : Nat) (env : Env) (ob : OB) (J : Env → OB → Nat → Prop) : Prop :=
  NxS vs ob nid fun r ob' n' => wpS P l n' (put env d r) ob' J
def rcS (P : Program) (f : Nat) (vs : List V) (d : Option Nat) (l : List RO) (nid : Nat) (env : Env) (ob : OB) (J : Env → OB → Nat → Prop) : Prop :=
  (FnS P f vs ob nid fun r ob' n' => wpS P l n' (put env d r) ob' J) ∨ FnX P f vs ob nid fun r ob' n' => wpS P l n' (put env d r) ob' J
def gR (P : Program) (w b : Bool) (f : Nat) (vs : List V) (d : Option Nat) (l : List RO) (nid : Nat) (env : Env) (ob : OB) (J : Env → OB → Nat → Prop) : Prop :=
  (b = w → rcS P f vs d l nid env ob J) ∧ (b = !w → wpS P l (nid + 1) (put env d (.c undef)) ob J)
def gM (P : Program) (w b : Bool) (d : Option Nat) (l : List RO) (nid : Nat) (env : Env) (ob : OB) (J : Env → OB → Nat → Prop) (x : Option (V × Ups)) : Prop :=
  (b = w → nxS P d l nid env ob J x) ∧ (b = !w → wpS P l (nid + 1) (put env d (.c undef)) ob J)
def gN_ (P : Program) (w b loud : Bool) (d : Option Nat) (l : List RO) (nid : Nat) (env : Env) (ob : OB) (dl : Ups) (K : Env → OB → Prop) (x : Option (V × Ups)) : Prop :=
  (b = w → nxD P loud d l nid env ob dl K x) ∧ (b = !w → wpD P l (nid + 1) (put env d (.c undef)) ob dl K)
def gC (P : Program) (w b : Bool) (f : Nat) (vs : List V) (m : Md) (d : Option Nat) (l : List RO) (nid : Nat) (env : Env) (ob : OB) (J : Env → OB → Nat → Prop) : Prop :=
  (b = w → caS P f vs m d l nid env ob J) ∧ (b = !w → wpS P l (nid + 1) (put env d (.c undef)) ob J)
def gCD (P : Program) (w b : Bool) (f : Nat) (vs : List V) (m : Md) (d : Option Nat) (l : List RO) (nid : Nat) (env : Env) (ob : OB) (dl : Ups) (K : Env → OB → Prop) : Prop :=
  (b = w → caD P f vs m d l nid env ob dl K) ∧ (b = !w → wpD P l (nid + 1) (put env d (.c undef)) ob dl K)
def gW (P : Program) (w b : Bool) (v : V) (as_ : List V) (m : Md) (d : Option Nat) (l : List RO) (nid : Nat) (env : Env) (ob : OB) (J : Env → OB → Nat → Prop) : Prop :=
  (b = w → cvS P v as_ m d l nid env ob J) ∧ (b = !w → wpS P l (nid + 1) (put env d (.c undef)) ob J)
def gWD (P : Program) (w b : Bool) (v : V) (as_ : List V) (m : Md) (d : Option Nat) (l : List RO) (nid : Nat) (env : Env) (ob : OB) (dl : Ups) (K : Env → OB → Prop) : Prop :=
  (b = w → cvD P v as_ m d l nid env ob dl K) ∧ (b = !w → wpD P l (nid + 1) (put env d (.c undef)) ob dl K)
section
variable {P : Program} {Q : Post} {env : Env} {ob : OB} {n nid : Nat} {K : Env → OB → Prop} {J : Env → OB → Nat → Prop} {l : List RO} {dl : Ups} {d : Option Nat} {op : Ok} {xs : List Od} {m : Md}
theorem wpS_congr {l : List RO} : wpS P l nid env ob J = wpS P l nid env ob J := (rfl)
theorem wpD_congr {l : List RO} : wpD P l nid env ob dl K = wpD P l nid env ob dl K := (rfl)
theorem wpC_congr {c : IC} : wpC P c Q env ob nid = wpC P c Q env ob nid := (rfl)
theorem exS_congr {o : RO} : exS P o l nid env ob J = exS P o l nid env ob J := (rfl)
theorem exD_congr {o : RO} : exD P o l nid env ob dl K = exD P o l nid env ob dl K := (rfl)
theorem gS_congr {o : RO} {w : Bool} {v v' : V} (h : v = v') : gS v w P o l nid env ob J = gS v' w P o l nid env ob J := by rw [h]
theorem gD_congr {o : RO} {w : Bool} {v v' : V} (h : v = v') : gD v w P o l nid env ob dl K = gD v' w P o l nid env ob dl K := by rw [h]
theorem nxS_congr {x x' : Option (V × Ups)} (h : x = x') : nxS P d l nid env ob J x = nxS P d l nid env ob J x' := by rw [h]
theorem nxD_congr {b b' : Bool} {x x' : Option (V × Ups)} (hb : b = b') (h : x = x') : nxD P b d l nid env ob dl K x = nxD P b' d l nid env ob dl K x' := by rw [h, hb]
theorem caS_congr {f : Nat} {vs vs' : List V} (h : vs = vs') : caS P f vs m d l nid env ob J = caS P f vs' m d l nid env ob J := by rw [h]
theorem caD_congr {f : Nat} {vs vs' : List V} (h : vs = vs') : caD P f vs m d l nid env ob dl K = caD P f vs' m d l nid env ob dl K := by rw [h]
theorem cvS_congr {v v' : V} {as_ as' : List V} (h : v = v') (ha : as_ = as') : cvS P v as_ m d l nid env ob J = cvS P v' as' m d l nid env ob J := by rw [h, ha]
theorem cvD_congr {v v' : V} {as_ as' : List V} (h : v = v') (ha : as_ = as') : cvD P v as_ m d l nid env ob dl K = cvD P v' as' m d l nid env ob dl K := by rw [h, ha]
theorem kS_congr : kS Q env ob n = kS Q env ob n := (rfl)
theorem rcS_congr {f : Nat} {vs vs' : List V} (h : vs = vs') : rcS P f vs d l nid env ob J = rcS P f vs' d l nid env ob J := by rw [h]
theorem gR_congr {w b : Bool} {f : Nat} {vs vs' : List V} (h : b = w → vs = vs') : gR P w b f vs d l nid env ob J = gR P w b f vs' d l nid env ob J := by cases w <;> cases b <;> simp [gR] at h ⊢ <;> rw [h]
theorem kN_congr {k : Nat} : kN Q k env ob = kN Q k env ob := (rfl)
def nxE (P : Program) (d : Option Nat) (l : List RO) (nps : List (List Nat)) (nid : Nat) (env : Env) (ob : OB) (past : List (List Nat × Option (List Nat))) (np : List Nat) (lk : Option (List Nat)) (K : Env → OB → Prop) (x : Option (V × Ups)) : Prop :=
  match x with
  | some (r, us) => sepL past np (tch us, lk) ∧ wpE P l nps (nid + 1) (put env d r) (apps ob us) (past ++ [(tch us, lk)]) K
  | none => False
def sepAt (a : Option (List Nat × Option (List Nat))) (q : List Nat × Option (List Nat)) : Prop := match a with
  | some a => sepE a q
  | none => False
theorem wpE_congr {nps : List (List Nat)} {past : List (List Nat × Option (List Nat))} : wpE P l nps nid env ob past K = wpE P l nps nid env ob past K := (rfl)
theorem nxE_congr {nps : List (List Nat)} {past : List (List Nat × Option (List Nat))} {np : List Nat} {lk : Option (List Nat)} {x x' : Option (V × Ups)} (h : x = x') : nxE P d l nps nid env ob past np lk K x = nxE P d l nps nid env ob past np lk K x' := by rw [h]
def caE (P : Program) (f : Nat) (vs : List V) (m : Md) (d : Option Nat) (l : List RO) (nps : List (List Nat)) (nid : Nat) (env : Env) (ob : OB) (past : List (List Nat × Option (List Nat))) (np : List Nat) (lk : Option (List Nat)) (K : Env → OB → Prop) : Prop :=
  ∃ q, FnB P f vs q ∧ impOk m q ∧ nxE P d l nps nid env ob past np lk K (some (imp m nid q))
theorem caE_congr {f : Nat} {vs vs' : List V} {nps : List (List Nat)} {past : List (List Nat × Option (List Nat))} {np : List Nat} {lk lk' : Option (List Nat)} (h : vs = vs') (hk : lk = lk') : caE P f vs m d l nps nid env ob past np lk K = caE P f vs' m d l nps nid env ob past np lk' K := by rw [h, hk]
attribute [congr] wpE_congr nxE_congr caE_congr
theorem wpE_c {f : Nat} {nps : List (List Nat)} {past : List (List Nat × Option (List Nat))} : wpE P (⟨d, none, .call f m, xs⟩ :: l) nps nid env ob past K = caE P f ((xs.map (ev env)).map (resV ob 6)) m d l nps.tail nid env ob past (nps.headD []) (lkI (.call f m) (xs.map (ev env))) K := by
  simp only [wpE, gd, OpR, caE, nxE]
  apply propext
  constructor
  · rintro ⟨r, us, ⟨q, h1, h2, rfl, rfl⟩, h3, h4⟩; exact ⟨q, h1, h2, h3, h4⟩
  · rintro ⟨q, h1, h2, h3, h4⟩; exact ⟨_, _, ⟨q, h1, h2, rfl, rfl⟩, h3, h4⟩
theorem caE_i {f : Nat} {vs : List V} {q : V} {nps : List (List Nat)} {past : List (List Nat × Option (List Nat))} {np : List Nat} {lk : Option (List Nat)} (h : FnB P f vs q) (hm : impOk m q) (hn : nxE P d l nps nid env ob past np lk K (some (imp m nid q))) : caE P f vs m d l nps nid env ob past np lk K := ⟨q, h, hm, hn⟩
def lkF (vs : List V) : Option (List Nat) := if vs.all flatV then some [] else none
theorem lkI_call {f : Nat} {vs : List V} : lkI (.call f m) vs = lkF vs := by simp [lkI, lkF, noRead, lkB, isCl]
theorem lkF_n : lkF [] = some [] := (rfl)
theorem lkF_c {v : V} {l : List V} (h : flatV v = true) : lkF (v :: l) = lkF l := by simp [lkF, h]
theorem flat_c {v : Value} : flatV (.c v) = true := (rfl)
theorem flat_q : flatV .q = true := (rfl)
theorem flat_z : flatV .z = true := (rfl)
theorem flat_an : flatV (.ag []) = true := (rfl)
theorem flat_ag {v : V} {l : List V} (h : isC v = true) : flatV (.ag (v :: l)) = flatV (.ag l) := by simp [flatV, h]
theorem isC_c {v : Value} : isC (.c v) = true := (rfl)
theorem wpC_re {np : List (List Nat)} : wpC P (.re l np) Q env ob n = wpE P l np n env ob [] (kN Q (n + l.length)) := (rfl)
theorem wpE_nil {nps : List (List Nat)} {past : List (List Nat × Option (List Nat))} : wpE P [] nps nid env ob past K = K env ob := (rfl)
theorem wpE_o {nps : List (List Nat)} {past : List (List Nat × Option (List Nat))} (h : isCall op = false) : wpE P (⟨d, none, op, xs⟩ :: l) nps nid env ob past K = nxE P d l nps.tail nid env ob past (nps.headD []) (lkI op (xs.map (ev env))) K (opF op (xs.map (ev env)) ob nid) := by
  have hR : ∀ vs r us, OpR P op vs ob nid r us = (opF op vs ob nid = some (r, us)) := fun vs r us => by cases op <;> first | rfl | (simp [isCall] at h)
  simp only [wpE, gd, hR, nxE]
  cases hx : opF op (xs.map (ev env)) ob nid with
  | none => simp
  | some q =>
    obtain ⟨r, us⟩ := q
    apply propext
    constructor
    · rintro ⟨r', us', h1, h2, h3⟩
      injection h1 with h1; injection h1 with h1 h4; subst h1; subst h4
      exact ⟨h2, h3⟩
    · rintro ⟨h2, h3⟩; exact ⟨r, us, rfl, h2, h3⟩
theorem nxE_s {nps : List (List Nat)} {past : List (List Nat × Option (List Nat))} {np : List Nat} {lk : Option (List Nat)} {r : V} {us : Ups} : nxE P d l nps nid env ob past np lk K (some (r, us)) = (sepL past np (tch us, lk) ∧ wpE P l nps (nid + 1) (put env d r) (apps ob us) (past ++ [(tch us, lk)]) K) := (rfl)
theorem nxE_i {nps : List (List Nat)} {past : List (List Nat × Option (List Nat))} {np : List Nat} {lk : Option (List Nat)} {c : Prop} [Decidable c] {x : Option (V × Ups)} : nxE P d l nps nid env ob past np lk K (if c then x else none) = (c ∧ nxE P d l nps nid env ob past np lk K x) := by
  by_cases h : c
  · simp [h]
  · simp [h, nxE]
theorem sepL_nil {past : List (List Nat × Option (List Nat))} {q : List Nat × Option (List Nat)} : sepL past [] q = True := (rfl)
theorem sepL_c {past : List (List Nat × Option (List Nat))} {q : List Nat × Option (List Nat)} {i : Nat} {np : List Nat} : sepL past (i :: np) q = (sepAt past[i]? q ∧ sepL past np q) := (rfl)
theorem sepAt_s {a q : List Nat × Option (List Nat)} : sepAt (some a) q = sepE a q := (rfl)
theorem sepE_eq {T S : List Nat} {L M : Option (List Nat)} : sepE (T, L) (S, M) = (apart T M ∧ apart S L ∧ apL T S) := (rfl)
theorem apart_n {T : List Nat} : apart T none = (T = []) := (rfl)
theorem apart_s {T L : List Nat} : apart T (some L) = apL T L := (rfl)
theorem apL_n {L : List Nat} : apL [] L = True := (rfl)
theorem apL_c {x : Nat} {T L : List Nat} : apL (x :: T) L = (nin x L ∧ apL T L) := (rfl)
theorem nin_n {x : Nat} : nin x [] = True := (rfl)
theorem nin_c {x y : Nat} {L : List Nat} : nin x (y :: L) = (x ≠ y ∧ nin x L) := (rfl)
theorem tch_n : tch [] = [] := (rfl)
theorem tch_c {i : Nat} {o : Option Ob} {us : Ups} : tch ((i, o) :: us) = i :: tch us := (rfl)
theorem vid_sl {i a b : Nat} : vid (.sl i a b) = [i] := (rfl)
theorem vid_pt {i a b : Nat} : vid (.pt i a b) = [i] := (rfl)
theorem vid_c {v : Value} : vid (.c v) = [] := (rfl)
theorem vid_im {f : Fl} {s : List (List V)} : vid (.im f s) = [] := (rfl)
theorem vid_bp {s : List V} : vid (.bp s) = [] := (rfl)
theorem vid_ag {s : List V} : vid (.ag s) = [] := (rfl)
theorem vid_z : vid .z = [] := (rfl)
theorem vid_fn {f : Nat} {s : List V} : vid (.fn f s) = [] := (rfl)
theorem vid_u : vid .u = [] := (rfl)
theorem headD_c {α : Type} {a b : α} {s : List α} : (a :: s).headD b = a := (rfl)
theorem tail_c {α : Type} {a : α} {s : List α} : (a :: s).tail = s := (rfl)
theorem kB1_congr {o : RO} {b : List RO} {k j : Nat} : kB1 P o b k j Q env ob = kB1 P o b k j Q env ob := (rfl)
theorem kB2_congr {b : List RO} {k j : Nat} : kB2 P b j Q env ob k = kB2 P b j Q env ob k := (rfl)
attribute [congr] kB1_congr kB2_congr
attribute [congr] kS_congr rcS_congr gR_congr wpS_congr wpD_congr wpC_congr exS_congr exD_congr gS_congr gD_congr nxS_congr nxD_congr caS_congr caD_congr cvS_congr cvD_congr kN_congr
theorem wpC_skip : wpC P .skip Q env ob n = Q .nrm env ob n := (rfl)
theorem wpC_rg : wpC P (.rg l false) Q env ob n = wpS P l n env ob (kS Q) := (rfl)
theorem wpC_rgD : wpC P (.rg l true) Q env ob n = wpD P l n env ob [] (kN Q (n + l.length)) := (rfl)
theorem wpC_rb {a b : List RO} {o : RO} : wpC P (.rb a o b) Q env ob n = wpD P a n env ob [] (kB1 P o b (n + a.length) (a.length + 1) Q) := (rfl)
theorem kB1_eq {o : RO} {b : List RO} {k j : Nat} : kB1 P o b k j Q env ob = wpS P [o] k env ob (kB2 P b j Q) := (rfl)
theorem kB2_eq {b : List RO} {k j : Nat} : kB2 P b j Q env ob k = wpD P b (k + j) env ob [] (kN Q (k + j + b.length)) := (rfl)
theorem wpC_sq {a b : IC} : wpC P (.sq a b) Q env ob n = wpC P a (thenQ (wpC P b Q) Q) env ob n := (rfl)
theorem wpC_bl {i : Nat} {a : IC} : wpC P (.bl i a) Q env ob n = wpC P a (blQ i Q) env ob n := (rfl)
theorem wpC_ex {i : Nat} : wpC P (.ex i) Q env ob n = Q (.ex i) env ob n := (rfl)
theorem wpC_rt : wpC P .rt Q env ob n = Q .rt env ob n := (rfl)
def cnC (P : Program) (v : V) (a b : IC) (Q : Post) (env : Env) (ob : OB) (n : Nat) : Prop := cnd v (wpC P a Q env ob n) (wpC P b Q env ob n)
theorem wpC_cn {c : Od} {a b : IC} : wpC P (.cn c a b) Q env ob n = cnC P (ev env c) a b Q env ob n := (rfl)
theorem cnC_congr {v v' : V} {a b : IC} (h : v = v') : cnC P v a b Q env ob n = cnC P v' a b Q env ob n := by rw [h]
attribute [congr] cnC_congr
theorem cnC_b {t : Bool} {a b : IC} : cnC P (.c (.bool t)) a b Q env ob n = ((t = true → wpC P a Q env ob n) ∧ (t = false → wpC P b Q env ob n)) := (rfl)
theorem cnC_t {a b : IC} : cnC P (.c (.bool true)) a b Q env ob n = wpC P a Q env ob n := by simp [cnC, cnd]
theorem cnC_f {a b : IC} : cnC P (.c (.bool false)) a b Q env ob n = wpC P b Q env ob n := by simp [cnC, cnd]
theorem cnC_q {a b : IC} : cnC P .q a b Q env ob n = (wpC P a Q env ob n ∧ wpC P b Q env ob n) := (rfl)
theorem thenQ_n {f : Env → OB → Nat → Prop} : thenQ f Q .nrm env ob n = f env ob n := (rfl)
theorem thenQ_r {f : Env → OB → Nat → Prop} : thenQ f Q .rt env ob n = Q .rt env ob n := (rfl)
theorem thenQ_e {f : Env → OB → Nat → Prop} {i : Nat} : thenQ f Q (.ex i) env ob n = Q (.ex i) env ob n := (rfl)
theorem blQ_n {i : Nat} : blQ i Q .nrm env ob n = Q .nrm env ob n := (rfl)
theorem blQ_r {i : Nat} : blQ i Q .rt env ob n = Q .rt env ob n := (rfl)
theorem blQ_s {i : Nat} : blQ i Q (.ex i) env ob n = Q .nrm env ob n := by simp [blQ]
theorem blQ_o {i j : Nat} (h : (j == i) = false) : blQ i Q (.ex j) env ob n = Q (.ex j) env ob n := by simp at h; simp [blQ, h]
theorem lpQ_n {I : Env → OB → Nat → Prop} {μ : Env → OB → Nat → Nat} {k : Nat} : lpQ I μ k Q .nrm env ob n = (I env ob n ∧ μ env ob n < k) := (rfl)
theorem lpQ_r {I : Env → OB → Nat → Prop} {μ : Env → OB → Nat → Nat} {k : Nat} : lpQ I μ k Q .rt env ob n = Q .rt env ob n := (rfl)
theorem lpQ_e {I : Env → OB → Nat → Prop} {μ : Env → OB → Nat → Nat} {k i : Nat} : lpQ I μ k Q (.ex i) env ob n = Q (.ex i) env ob n := (rfl)
theorem kS_eq : kS Q env ob n = Q .nrm env ob n := (rfl)
theorem kN_eq {k : Nat} : kN Q k env ob = Q .nrm env ob k := (rfl)
theorem finS_n {rs : List Rs} {C : V → OB → Nat → Prop} : finS rs C .nrm env ob n = finW C ob n (rdL env ob rs) := (rfl)
theorem finS_r {rs : List Rs} {C : V → OB → Nat → Prop} : finS rs C .rt env ob n = finW C ob n (rdL env ob rs) := (rfl)
theorem finW_s {C : V → OB → Nat → Prop} {l : List V} : finW C ob n (some l) = C (packV l) ob n := (rfl)
theorem finV_s {r : V} {l : List V} : finV r ob (some l) = (retV (outL ob l) = r) := (rfl)
theorem rdL_n : rdL env ob [] = some [] := (rfl)
theorem rdL_t {t : Nat} {l : List Rs} : rdL env ob (.t t :: l) = (rdL env ob l).map (env t :: ·) := (rfl)
theorem rdL_c {t : Nat} {sz : Option Nat} {l : List Rs} : rdL env ob (.c t sz :: l) = (ldV ob sz (env t)).bind fun v => (rdL env ob l).map (v :: ·) := (rfl)
theorem packV_0 : packV [] = .tp [] := (rfl)
theorem packV_1 {v : V} : packV [v] = v := (rfl)
theorem packV_2 {a b : V} {l : List V} : packV (a :: b :: l) = .tp (a :: b :: l) := (rfl)
theorem finQ_n {rs : List Rs} {r : V} : finQ rs r .nrm env ob n = finV r ob (rdL env ob rs) := (rfl)
theorem finQ_r {rs : List Rs} {r : V} : finQ rs r .rt env ob n = finV r ob (rdL env ob rs) := (rfl)
theorem wpS_nil : wpS P [] nid env ob J = J env ob nid := (rfl)
theorem wpS_n : wpS P (⟨d, none, op, xs⟩ :: l) nid env ob J = exS P ⟨d, none, op, xs⟩ l nid env ob J := (rfl)
theorem wpS_g {t : Nat} {w : Bool} : wpS P (⟨d, some (t, w), op, xs⟩ :: l) nid env ob J = gS (env t) w P ⟨d, none, op, xs⟩ l nid env ob J := (rfl)
theorem gS_bt {b : Bool} {o : RO} : gS (.c (.bool b)) true P o l nid env ob J = ((b = true → exS P o l nid env ob J) ∧ (b = false → wpS P l (nid + 1) (put env o.d (.c undef)) ob J)) := by rw [gS, sk_b]; cases b <;> simp
theorem gS_bf {b : Bool} {o : RO} : gS (.c (.bool b)) false P o l nid env ob J = ((b = false → exS P o l nid env ob J) ∧ (b = true → wpS P l (nid + 1) (put env o.d (.c undef)) ob J)) := by rw [gS, sk_b]; cases b <;> simp
theorem gS_tt {o : RO} : gS (.c (.bool true)) true P o l nid env ob J = exS P o l nid env ob J := by rw [gS, sk_b]; simp
theorem gS_ff {o : RO} : gS (.c (.bool false)) false P o l nid env ob J = exS P o l nid env ob J := by rw [gS, sk_b]; simp
theorem gS_tf {o : RO} : gS (.c (.bool true)) false P o l nid env ob J = wpS P l (nid + 1) (put env o.d (.c undef)) ob J := by rw [gS, sk_b]; simp
theorem gS_ft {o : RO} : gS (.c (.bool false)) true P o l nid env ob J = wpS P l (nid + 1) (put env o.d (.c undef)) ob J := by rw [gS, sk_b]; simp
theorem exS_o (h : isCall op = false) {g : Option (Nat × Bool)} : exS P ⟨d, g, op, xs⟩ l nid env ob J = nxS P d l nid env ob J (opF op (xs.map (ev env)) ob nid) := by
  have e : exS P ⟨d, g, op, xs⟩ l nid env ob J = ∃ r us, opF op (xs.map (ev env)) ob nid = some (r, us) ∧ wpS P l (nid + 1) (put env d r) (apps ob us) J := by
    cases op <;> first | rfl | simp [isCall] at h
  rw [e]; simp only [nxS]
  cases opF op (xs.map (ev env)) ob nid with
  | none => simp
  | some x =>
    obtain ⟨r, us⟩ := x; simp
    exact ⟨fun ⟨_, _, ⟨h1, h2⟩, h⟩ => h1 ▸ h2 ▸ h, fun h => ⟨_, _, ⟨rfl, rfl⟩, h⟩⟩
theorem exS_c {f : Nat} {g : Option (Nat × Bool)} : exS P ⟨d, g, .call f m, xs⟩ l nid env ob J = caS P f ((xs.map (ev env)).map (resV ob 6)) m d l nid env ob J := by
  simp only [exS, stpR, OpR, caS, nxS]
  apply propext
  constructor
  · rintro ⟨r, us, ⟨q, h1, h2, rfl, rfl⟩, h⟩; exact ⟨q, h1, h2, h⟩
  · rintro ⟨q, h1, h2, h⟩; exact ⟨_, _, ⟨q, h1, h2, rfl, rfl⟩, h⟩
theorem exS_m {g : Option (Nat × Bool)} : exS P ⟨d, g, .mnx, xs⟩ l nid env ob J = nxtS P (xs.map (ev env)) d l nid env ob J := (rfl)
theorem exS_r {f : Nat} {g : Option (Nat × Bool)} : exS P ⟨d, g, .rcall f, xs⟩ l nid env ob J = rcS P f (xs.map (ev env)) d l nid env ob J := (rfl)
theorem exS_v {x : Od} {g : Option (Nat × Bool)} : exS P ⟨d, g, .callv m, x :: xs⟩ l nid env ob J = cvS P (ev env x) (xs.map (ev env)) m d l nid env ob J := by
  simp only [exS, stpR, OpR, cvS, caS, nxS]
  apply propext
  constructor
  · rintro ⟨r, us, ⟨f, caps, as_, q, h0, h1, h2, rfl, rfl⟩, h⟩
    simp only [List.map_cons, List.cons.injEq] at h0
    rw [h0.1, h0.2]; exact ⟨q, h1, h2, h⟩
  · intro h
    split at h
    · rename_i f caps heq
      obtain ⟨q, h1, h2, h⟩ := h
      exact ⟨_, _, ⟨f, caps, _, q, by simp [heq], h1, h2, rfl, rfl⟩, h⟩
    · exact h.elim
theorem cvS_f {f : Nat} {caps as_ : List V} : cvS P (.fn f caps) as_ m d l nid env ob J = caS P f ((as_ ++ caps).map (resV ob 6)) m d l nid env ob J := (rfl)
theorem nxS_s {r : V} {us : Ups} : nxS P d l nid env ob J (some (r, us)) = wpS P l (nid + 1) (put env d r) (apps ob us) J := (rfl)
theorem nxS_i {c : Prop} [Decidable c] {x : V × Ups} : nxS P d l nid env ob J (if c then some x else none) = (c ∧ nxS P d l nid env ob J (some x)) := by
  by_cases h : c
  · simp [h]
  · simp [h, nxS]
theorem wpD_nil : wpD P [] nid env ob dl K = K env (apps ob dl) := (rfl)
theorem wpD_n : wpD P (⟨d, none, op, xs⟩ :: l) nid env ob dl K = exD P ⟨d, none, op, xs⟩ l nid env ob dl K := (rfl)
theorem wpD_g {t : Nat} {w : Bool} : wpD P (⟨d, some (t, w), op, xs⟩ :: l) nid env ob dl K = gD (env t) w P ⟨d, none, op, xs⟩ l nid env ob dl K := (rfl)
theorem gD_bt {b : Bool} {o : RO} : gD (.c (.bool b)) true P o l nid env ob dl K = ((b = true → exD P o l nid env ob dl K) ∧ (b = false → wpD P l (nid + 1) (put env o.d (.c undef)) ob dl K)) := by rw [gD, sk_b]; cases b <;> simp
theorem gD_bf {b : Bool} {o : RO} : gD (.c (.bool b)) false P o l nid env ob dl K = ((b = false → exD P o l nid env ob dl K) ∧ (b = true → wpD P l (nid + 1) (put env o.d (.c undef)) ob dl K)) := by rw [gD, sk_b]; cases b <;> simp
theorem gD_tt {o : RO} : gD (.c (.bool true)) true P o l nid env ob dl K = exD P o l nid env ob dl K := by rw [gD, sk_b]; simp
theorem gD_ff {o : RO} : gD (.c (.bool false)) false P o l nid env ob dl K = exD P o l nid env ob dl K := by rw [gD, sk_b]; simp
theorem gD_tf {o : RO} : gD (.c (.bool true)) false P o l nid env ob dl K = wpD P l (nid + 1) (put env o.d (.c undef)) ob dl K := by rw [gD, sk_b]; simp
theorem gD_ft {o : RO} : gD (.c (.bool false)) true P o l nid env ob dl K = wpD P l (nid + 1) (put env o.d (.c undef)) ob dl K := by rw [gD, sk_b]; simp
theorem exD_o (h : isCall op = false) {g : Option (Nat × Bool)} : exD P ⟨d, g, op, xs⟩ l nid env ob dl K = nxD P (isLoud op) d l nid env ob dl K (opF op (xs.map (ev env)) ob nid) := by
  have e : ∀ r us, OpR P op (xs.map (ev env)) ob nid r us = (opF op (xs.map (ev env)) ob nid = some (r, us)) := fun r us => by
    cases op <;> first | rfl | simp [isCall] at h
  simp only [exD, e, nxD]
  cases opF op (xs.map (ev env)) ob nid with
  | none => simp
  | some x =>
    obtain ⟨r, us⟩ := x; cases isLoud op <;> simp <;> exact ⟨fun ⟨_, _, ⟨h1, h2⟩, h⟩ => h1 ▸ h2 ▸ h, fun h => ⟨_, _, ⟨rfl, rfl⟩, h⟩⟩
theorem exD_c {f : Nat} {g : Option (Nat × Bool)} : exD P ⟨d, g, .call f m, xs⟩ l nid env ob dl K = caD P f ((xs.map (ev env)).map (resV ob 6)) m d l nid env ob dl K := by
  simp only [exD, OpR, caD, nxD, isLoud]
  apply propext
  constructor
  · rintro ⟨r, us, ⟨q, h1, h2, rfl, rfl⟩, h⟩; exact ⟨q, h1, h2, h⟩
  · rintro ⟨q, h1, h2, h⟩; exact ⟨_, _, ⟨q, h1, h2, rfl, rfl⟩, h⟩
theorem exD_v {x : Od} {g : Option (Nat × Bool)} : exD P ⟨d, g, .callv m, x :: xs⟩ l nid env ob dl K = cvD P (ev env x) (xs.map (ev env)) m d l nid env ob dl K := by
  simp only [exD, OpR, cvD, caD, nxD, isLoud]
  apply propext
  constructor
  · rintro ⟨r, us, ⟨f, caps, as_, q, h0, h1, h2, rfl, rfl⟩, h⟩
    simp only [List.map_cons, List.cons.injEq] at h0
    rw [h0.1, h0.2]; exact ⟨q, h1, h2, h⟩
  · intro h
    split at h
    · rename_i f caps heq
      obtain ⟨q, h1, h2, h⟩ := h
      exact ⟨_, _, ⟨f, caps, _, q, by simp [heq], h1, h2, rfl, rfl⟩, h⟩
    · exact h.elim
theorem cvD_f {f : Nat} {caps as_ : List V} : cvD P (.fn f caps) as_ m d l nid env ob dl K = caD P f ((as_ ++ caps).map (resV ob 6)) m d l nid env ob dl K := (rfl)
theorem nxD_f {r : V} {us : Ups} : nxD P false d l nid env ob dl K (some (r, us)) = wpD P l (nid + 1) (put env d r) ob (dl ++ us) K := (rfl)
theorem nxD_t {r : V} {us : Ups} : nxD P true d l nid env ob dl K (some (r, us)) = wpD P l (nid + 1) (put env d r) (apps ob us) dl K := (rfl)
theorem nxD_i {c : Prop} [Decidable c] {x : V × Ups} {b : Bool} : nxD P b d l nid env ob dl K (if c then some x else none) = (c ∧ nxD P b d l nid env ob dl K (some x)) := by
  by_cases h : c
  · simp [h]
  · simp [h, nxD]
theorem caS_i {f : Nat} {vs : List V} {q : V} (h : FnB P f vs q) (hm : impOk m q) (hn : nxS P d l nid env ob J (some (imp m nid q))) : caS P f vs m d l nid env ob J := ⟨q, h, hm, hn⟩
theorem caD_i {f : Nat} {vs : List V} {q : V} (h : FnB P f vs q) (hm : impOk m q) (hn : nxD P false d l nid env ob dl K (some (imp m nid q))) : caD P f vs m d l nid env ob dl K := ⟨q, h, hm, hn⟩
theorem gS_u {w : Bool} {o : RO} : gS (.c undef) w P o l nid env ob J = wpS P l (nid + 1) (put env o.d (.c undef)) ob J := sk_u
theorem gD_u {w : Bool} {o : RO} : gD (.c undef) w P o l nid env ob dl K = wpD P l (nid + 1) (put env o.d (.c undef)) ob dl K := sk_u
theorem gS_i1 {b x : Bool} {o : RO} : gS (if b = true then .c (.bool x) else .c undef) true P o l nid env ob J = gS (.c (.bool (b && x))) true P o l nid env ob J := by cases b <;> simp [gS_u, gS_ft, gS_tf]
theorem gS_i2 {b x : Bool} {o : RO} : gS (if b = true then .c undef else .c (.bool x)) true P o l nid env ob J = gS (.c (.bool (!b && x))) true P o l nid env ob J := by cases b <;> simp [gS_u, gS_tf, gS_ft]
theorem gS_i3 {b x : Bool} {o : RO} : gS (if b = true then .c (.bool x) else .c undef) false P o l nid env ob J = gS (.c (.bool (b && !x))) true P o l nid env ob J := by cases b <;> cases x <;> simp [gS_u, gS_tt, gS_ff, gS_tf, gS_ft]
theorem gS_i4 {b x : Bool} {o : RO} : gS (if b = true then .c undef else .c (.bool x)) false P o l nid env ob J = gS (.c (.bool (!b && !x))) true P o l nid env ob J := by cases b <;> cases x <;> simp [gS_u, gS_tt, gS_ff, gS_tf, gS_ft]
theorem gD_i1 {b x : Bool} {o : RO} : gD (if b = true then .c (.bool x) else .c undef) true P o l nid env ob dl K = gD (.c (.bool (b && x))) true P o l nid env ob dl K := by cases b <;> simp [gD_u, gD_ft, gD_tf]
theorem gD_i2 {b x : Bool} {o : RO} : gD (if b = true then .c undef else .c (.bool x)) true P o l nid env ob dl K = gD (.c (.bool (!b && x))) true P o l nid env ob dl K := by cases b <;> simp [gD_u, gD_tf, gD_ft]
theorem gD_i3 {b x : Bool} {o : RO} : gD (if b = true then .c (.bool x) else .c undef) false P o l nid env ob dl K = gD (.c (.bool (b && !x))) true P o l nid env ob dl K := by cases b <;> cases x <;> simp [gD_u, gD_tt, gD_ff, gD_tf, gD_ft]
theorem gD_i4 {b x : Bool} {o : RO} : gD (if b = true then .c undef else .c (.bool x)) false P o l nid env ob dl K = gD (.c (.bool (!b && !x))) true P o l nid env ob dl K := by cases b <;> cases x <;> simp [gD_u, gD_tt, gD_ff, gD_tf, gD_ft]
theorem gM_congr {w b : Bool} {x x' : Option (V × Ups)} (h : b = w → x = x') : gM P w b d l nid env ob J x = gM P w b d l nid env ob J x' := by cases w <;> cases b <;> simp [gM] at h ⊢ <;> rw [h]
theorem gN_congr {w b loud : Bool} {x x' : Option (V × Ups)} (h : b = w → x = x') : gN_ P w b loud d l nid env ob dl K x = gN_ P w b loud d l nid env ob dl K x' := by cases w <;> cases b <;> simp [gN_] at h ⊢ <;> rw [h]
theorem gC_congr {w b : Bool} {f : Nat} {vs vs' : List V} (h : b = w → vs = vs') : gC P w b f vs m d l nid env ob J = gC P w b f vs' m d l nid env ob J := by cases w <;> cases b <;> simp [gC] at h ⊢ <;> rw [h]
theorem gCD_congr {w b : Bool} {f : Nat} {vs vs' : List V} (h : b = w → vs = vs') : gCD P w b f vs m d l nid env ob dl K = gCD P w b f vs' m d l nid env ob dl K := by cases w <;> cases b <;> simp [gCD] at h ⊢ <;> rw [h]
theorem gW_congr {w b : Bool} {v v' : V} {as_ as' : List V} (h : b = w → v = v') (ha : b = w → as_ = as') : gW P w b v as_ m d l nid env ob J = gW P w b v' as' m d l nid env ob J := by cases w <;> cases b <;> simp [gW] at h ha ⊢ <;> rw [h, ha]
theorem gWD_congr {w b : Bool} {v v' : V} {as_ as' : List V} (h : b = w → v = v') (ha : b = w → as_ = as') : gWD P w b v as_ m d l nid env ob dl K = gWD P w b v' as' m d l nid env ob dl K := by cases w <;> cases b <;> simp [gWD] at h ha ⊢ <;> rw [h, ha]
attribute [congr] gM_congr gN_congr gC_congr gCD_congr gW_congr gWD_congr
theorem gM_n {w b : Bool} {x : Option (V × Ups)} : gM P w (!b) d l nid env ob J x = gM P (!w) b d l nid env ob J x := by cases w <;> cases b <;> simp [gM]
theorem gR_n {w b : Bool} {f : Nat} {vs : List V} : gR P w (!b) f vs d l nid env ob J = gR P (!w) b f vs d l nid env ob J := by cases w <;> cases b <;> simp [gR]
theorem gC_n {w b : Bool} {f : Nat} {vs : List V} : gC P w (!b) f vs m d l nid env ob J = gC P (!w) b f vs m d l nid env ob J := by cases w <;> cases b <;> simp [gC]
theorem gCD_n {w b : Bool} {f : Nat} {vs : List V} : gCD P w (!b) f vs m d l nid env ob dl K = gCD P (!w) b f vs m d l nid env ob dl K := by cases w <;> cases b <;> simp [gCD]
theorem gW_n {w b : Bool} {v : V} {as_ : List V} : gW P w (!b) v as_ m d l nid env ob J = gW P (!w) b v as_ m d l nid env ob J := by cases w <;> cases b <;> simp [gW]
theorem gWD_n {w b : Bool} {v : V} {as_ : List V} : gWD P w (!b) v as_ m d l nid env ob dl K = gWD P (!w) b v as_ m d l nid env ob dl K := by cases w <;> cases b <;> simp [gWD]
theorem gN_n {w b loud : Bool} {x : Option (V × Ups)} : gN_ P w (!b) loud d l nid env ob dl K x = gN_ P (!w) b loud d l nid env ob dl K x := by cases w <;> cases b <;> simp [gN_]
theorem gM_s {w b : Bool} {r : V} : gM P w b d l nid env ob J (some (r, [])) = wpS P l (nid + 1) (put env d (if b = w then r else .c undef)) ob J := by cases w <;> cases b <;> simp [gM, nxS, apps]
theorem gM_u {w b : Bool} {r : V} {i : Nat} {o : Option Ob} {us : Ups} : gM P w b d l nid env ob J (some (r, (i, o) :: us)) = ((b = w → wpS P l (nid + 1) (put env d r) (apps ob ((i, o) :: us)) J) ∧ (b = !w → wpS P l (nid + 1) (put env d (.c undef)) ob J)) := (rfl)
theorem gM_j {w b : Bool} {c : Prop} [Decidable c] {x : Option (V × Ups)} : gM P w b d l nid env ob J (if c then x else none) = ((b = w → c) ∧ gM P w b d l nid env ob J x) := by cases w <;> cases b <;> by_cases h : c <;> simp [gM, nxS, h]
theorem gN_s {w b loud : Bool} {r : V} : gN_ P w b loud d l nid env ob dl K (some (r, [])) = wpD P l (nid + 1) (put env d (if b = w then r else .c undef)) ob dl K := by cases w <;> cases b <;> cases loud <;> simp [gN_, nxD, apps]
theorem gN_u {w b loud : Bool} {r : V} {i : Nat} {o : Option Ob} {us : Ups} : gN_ P w b loud d l nid env ob dl K (some (r, (i, o) :: us)) = ((b = w → nxD P loud d l nid env ob dl K (some (r, (i, o) :: us))) ∧ (b = !w → wpD P l (nid + 1) (put env d (.c undef)) ob dl K)) := (rfl)
theorem gN_j {w b loud : Bool} {c : Prop} [Decidable c] {x : Option (V × Ups)} : gN_ P w b loud d l nid env ob dl K (if c then x else none) = ((b = w → c) ∧ gN_ P w b loud d l nid env ob dl K x) := by cases w <;> cases b <;> by_cases h : c <;> simp [gN_, nxD, h]
theorem gS_o {b : Bool} (h : isCall op = false) : gS (.c (.bool b)) true P ⟨d, none, op, xs⟩ l nid env ob J = gM P true b d l nid env ob J (opF op (xs.map (ev env)) ob nid) := by rw [gS_bt, exS_o h]; rfl
theorem gS_o' {b : Bool} (h : isCall op = false) : gS (.c (.bool b)) false P ⟨d, none, op, xs⟩ l nid env ob J = gM P false b d l nid env ob J (opF op (xs.map (ev env)) ob nid) := by rw [gS_bf, exS_o h]; cases b <;> simp [gM]
theorem gS_c {b : Bool} {f : Nat} : gS (.c (.bool b)) true P ⟨d, none, .call f m, xs⟩ l nid env ob J = gC P true b f ((xs.map (ev env)).map (resV ob 6)) m d l nid env ob J := by rw [gS_bt, exS_c]; rfl
theorem gS_c' {b : Bool} {f : Nat} : gS (.c (.bool b)) false P ⟨d, none, .call f m, xs⟩ l nid env ob J = gC P false b f ((xs.map (ev env)).map (resV ob 6)) m d l nid env ob J := by rw [gS_bf, exS_c]; cases b <;> simp [gC]
theorem gS_r {b : Bool} {f : Nat} : gS (.c (.bool b)) true P ⟨d, none, .rcall f, xs⟩ l nid env ob J = gR P true b f (xs.map (ev env)) d l nid env ob J := by rw [gS_bt, exS_r]; rfl
theorem gS_r' {b : Bool} {f : Nat} : gS (.c (.bool b)) false P ⟨d, none, .rcall f, xs⟩ l nid env ob J = gR P false b f (xs.map (ev env)) d l nid env ob J := by rw [gS_bf, exS_r]; cases b <;> simp [gR]
theorem gS_v {b : Bool} {x : Od} : gS (.c (.bool b)) true P ⟨d, none, .callv m, x :: xs⟩ l nid env ob J = gW P true b (ev env x) (xs.map (ev env)) m d l nid env ob J := by rw [gS_bt, exS_v]; rfl
theorem gS_v' {b : Bool} {x : Od} : gS (.c (.bool b)) false P ⟨d, none, .callv m, x :: xs⟩ l nid env ob J = gW P false b (ev env x) (xs.map (ev env)) m d l nid env ob J := by rw [gS_bf, exS_v]; cases b <;> simp [gW]
theorem gD_o {b : Bool} (h : isCall op = false) : gD (.c (.bool b)) true P ⟨d, none, op, xs⟩ l nid env ob dl K = gN_ P true b (isLoud op) d l nid env ob dl K (opF op (xs.map (ev env)) ob nid) := by rw [gD_bt, exD_o h]; rfl
theorem gD_o' {b : Bool} (h : isCall op = false) : gD (.c (.bool b)) false P ⟨d, none, op, xs⟩ l nid env ob dl K = gN_ P false b (isLoud op) d l nid env ob dl K (opF op (xs.map (ev env)) ob nid) := by rw [gD_bf, exD_o h]; cases b <;> simp [gN_]
theorem gD_c {b : Bool} {f : Nat} : gD (.c (.bool b)) true P ⟨d, none, .call f m, xs⟩ l nid env ob dl K = gCD P true b f ((xs.map (ev env)).map (resV ob 6)) m d l nid env ob dl K := by rw [gD_bt, exD_c]; rfl
theorem gD_c' {b : Bool} {f : Nat} : gD (.c (.bool b)) false P ⟨d, none, .call f m, xs⟩ l nid env ob dl K = gCD P false b f ((xs.map (ev env)).map (resV ob 6)) m d l nid env ob dl K := by rw [gD_bf, exD_c]; cases b <;> simp [gCD]
theorem gD_v {b : Bool} {x : Od} : gD (.c (.bool b)) true P ⟨d, none, .callv m, x :: xs⟩ l nid env ob dl K = gWD P true b (ev env x) (xs.map (ev env)) m d l nid env ob dl K := by rw [gD_bt, exD_v]; rfl
theorem gD_v' {b : Bool} {x : Od} : gD (.c (.bool b)) false P ⟨d, none, .callv m, x :: xs⟩ l nid env ob dl K = gWD P false b (ev env x) (xs.map (ev env)) m d l nid env ob dl K := by rw [gD_bf, exD_v]; cases b <;> simp [gWD]
theorem gW_f {w b : Bool} {f : Nat} {caps as_ : List V} : gW P w b (.fn f caps) as_ m d l nid env ob J = gC P w b f ((as_ ++ caps).map (resV ob 6)) m d l nid env ob J := (rfl)
theorem gWD_f {w b : Bool} {f : Nat} {caps as_ : List V} : gWD P w b (.fn f caps) as_ m d l nid env ob dl K = gCD P w b f ((as_ ++ caps).map (resV ob 6)) m d l nid env ob dl K := (rfl)
theorem gC_i {w b : Bool} {f : Nat} {vs : List V} {q : V} (h : b = w → FnB P f vs q) (hm : impOk m q) (hn : gM P w b d l nid env ob J (some (imp m nid q))) : gC P w b f vs m d l nid env ob J := ⟨fun e => caS_i (h e) hm (hn.1 e), hn.2⟩
theorem gCD_i {w b : Bool} {f : Nat} {vs : List V} {q : V} (h : b = w → FnB P f vs q) (hm : impOk m q) (hn : gN_ P w b false d l nid env ob dl K (some (imp m nid q))) : gCD P w b f vs m d l nid env ob dl K := ⟨fun e => caD_i (h e) hm (hn.1 e), hn.2⟩
theorem wpC_lp {c : IC} (I : Env → OB → Nat → Prop) (μ : Env → OB → Nat → Nat) (h0 : I env ob n) (h : ∀ env ob n, I env ob n → wpC P c (lpQ I μ (μ env ob n) Q) env ob n) : wpC P (.lp c) Q env ob n := ⟨I, μ, h0, h⟩
end
theorem put_s (env : Env) (n : Nat) (v : V) : put env (some n) v n = v := by simp [put]
theorem put_o (env : Env) (n m : Nat) (v : V) (h : (m == n) = false) : put env (some n) v m = env m := by simp at h; simp [put, h]
theorem put_n (env : Env) (v : V) : put env none v = env := (rfl)
def updO (ob : OB) (i : Nat) (o : Option Ob) : OB := fun j => if j = i then o else ob j
theorem apps_n (ob : OB) : apps ob [] = ob := (rfl)
theorem apps_c (ob : OB) (i : Nat) (o : Option Ob) (l : Ups) : apps ob ((i, o) :: l) = apps (updO ob i o) l := (rfl)
theorem updO_s (ob : OB) (i : Nat) (o : Option Ob) : updO ob i o i = o := by simp [updO]
theorem updO_o (ob : OB) (i j : Nat) (o : Option Ob) (h : (j == i) = false) : updO ob i o j = ob j := by simp at h; simp [updO, h]
theorem noOb_e (i : Nat) : noOb i = none := (rfl)
theorem kill_s (ob : OB) (i : Nat) : kill ob i i = none := by simp [kill]
theorem kill_o (ob : OB) (i j : Nat) (h : (j == i) = false) : kill ob i j = ob j := by simp at h; simp [kill, h]
theorem ev_t (env : Env) (n : Nat) : ev env (.t n) = env n := (rfl)
theorem ev_k (env : Env) (v : V) : ev env (.k v) = v := (rfl)
theorem env0_c0 (v : V) (l : List V) : env0 (v :: l) 0 = v := (rfl)
theorem env0_cs (v : V) (l : List V) (n : Nat) : env0 (v :: l) (n + 1) = env0 l n := by simp [env0]
theorem env0_n (n : Nat) : env0 [] n = .u := by simp [env0]
end Go.Proofs.YtbojpedklnmidaaGreat.D
end
section
set_option linter.unusedVariables false
set_option linter.unusedSimpArgs false
set_option linter.constructorNameAsVariable false
/- Walking over plain values: what each step comes to. No condition. -/
namespace Go.Proofs.YtbojpedklnmidaaGreat.D
open Go Go.RowKit
attribute [go_sem] wpC_skip wpC_rg wpC_rgD wpC_rb kB1_eq kB2_eq wpC_re wpE_nil wpE_o wpE_c lkI_call lkF_n lkF_c flat_c flat_q flat_z flat_ag flat_an isC_c nxE_s nxE_i sepL_nil sepL_c sepAt_s sepE_eq apart_n apart_s apL_n apL_c nin_n nin_c tch_n tch_c vid_sl vid_pt vid_c vid_im vid_bp vid_ag vid_z vid_fn vid_u headD_c tail_c List.flatMap_cons List.flatMap_nil wpC_sq wpC_bl wpC_ex wpC_rt wpC_cn cnC_b cnC_q thenQ_n thenQ_r thenQ_e blQ_n blQ_r blQ_s blQ_o lpQ_n lpQ_r lpQ_e kS_eq finS_n finS_r finW_s finV_s rdL_n rdL_t rdL_c packV_0 packV_1 packV_2 exS_r exS_m gS_r gS_r' gR_n kN_eq finQ_n finQ_r wpS_nil wpS_n wpS_g gS_u gS_i1 gS_i2 gS_i3 gS_i4 gS_o gS_o' gS_c gS_c' gS_v gS_v' gM_s gM_u gM_j gW_f gM_n gC_n gW_n exS_o exS_c exS_v cvS_f nxS_s nxS_i wpD_nil wpD_n wpD_g gD_u gD_i1 gD_i2 gD_i3 gD_i4 gD_o gD_o' gD_c gD_c' gD_v gD_v' gN_s gN_u gN_j gWD_f gN_n gCD_n gWD_n exD_o exD_c exD_v cvD_f nxD_f nxD_t nxD_i put_s put_o put_n apps_n apps_c updO_s updO_o noOb_e kill_s kill_o ev_t ev_k env0_c0 env0_cs env0_n
attribute [go_sem] List.map_cons List.map_nil List.length_cons List.length_nil List.getElem?_cons_zero List.getElem?_cons_succ List.drop_zero List.drop_succ_cons List.take_zero List.take_succ_cons List.nil_append List.cons_append List.append_nil List.drop_nil List.take_nil Option.getD_none Option.getD_some Nat.zero_add eq_self forall_const true_and and_true Bool.not_true Bool.not_false List.map_map List.length_map Function.comp_apply Function.comp_def Nat.add_zero Bool.false_eq_true Bool.true_eq_false Bool.not_eq_true' false_implies implies_true
attribute [go_sem high] gS_tt gS_ff gS_tf gS_ft gD_tt gD_ff gD_tf gD_ft cnC_t cnC_f
@[go_sem] theorem isCall_mv  : isCall .mv = false := (rfl)
@[go_sem] theorem isLoud_mv  : isLoud .mv = false := (rfl)
@[go_sem] theorem isCall_pick  : isCall .pick = false := (rfl)
@[go_sem] theorem isLoud_pick  : isLoud .pick = false := (rfl)
@[go_sem] theorem isCall_bin (o : BinOp) : isCall (.bin o) = false := (rfl)
@[go_sem] theorem isLoud_bin (o : BinOp) : isLoud (.bin o) = false := (rfl)
@[go_sem] theorem isCall_bb (o : BinOp) : isCall (.bb o) = false := (rfl)
@[go_sem] theorem isLoud_bb (o : BinOp) : isLoud (.bb o) = false := (rfl)
@[go_sem] theorem isCall_eqs (b : Bool) (ks : List Nat) : isCall (.eqs b ks) = false := (rfl)
@[go_sem] theorem isLoud_eqs (b : Bool) (ks : List Nat) : isLoud (.eqs b ks) = false := (rfl)
@[go_sem] theorem isCall_nilq (k : Nat) (b : Bool) : isCall (.nilq k b) = false := (rfl)
@[go_sem] theorem isLoud_nilq (k : Nat) (b : Bool) : isLoud (.nilq k b) = false := (rfl)
@[go_sem] theorem isCall_un (o : UnOp) : isCall (.un o) = false := (rfl)
@[go_sem] theorem isLoud_un (o : UnOp) : isLoud (.un o) = false := (rfl)
@[go_sem] theorem isCall_conv (k : IntKind) : isCall (.conv k) = false := (rfl)
@[go_sem] theorem isLoud_conv (k : IntKind) : isLoud (.conv k) = false := (rfl)
@[go_sem] theorem isCall_box (n : Option Nat) : isCall (.box n) = false := (rfl)
@[go_sem] theorem isLoud_box (n : Option Nat) : isLoud (.box n) = false := (rfl)
@[go_sem] theorem isCall_alloc (z : List V) : isCall (.alloc z) = false := (rfl)
@[go_sem] theorem isLoud_alloc (z : List V) : isLoud (.alloc z) = false := (rfl)
@[go_sem] theorem isCall_bld (z : List V) (ps : List (Nat × Nat)) : isCall (.bld z ps) = false := (rfl)
@[go_sem] theorem isLoud_bld (z : List V) (ps : List (Nat × Nat)) : isLoud (.bld z ps) = false := (rfl)
@[go_sem] theorem isCall_bsl (k : Nat) (z : List V) (ps : List Nat) (n : Nat) (fz : Bool) : isCall (.bsl k z ps n fz) = false := (rfl)
@[go_sem] theorem isLoud_bsl (k : Nat) (z : List V) (ps : List Nat) (n : Nat) (fz : Bool) : isLoud (.bsl k z ps n fz) = false := (rfl)
@[go_sem] theorem isCall_ld (n : Option Nat) : isCall (.ld n) = false := (rfl)
@[go_sem] theorem isLoud_ld (n : Option Nat) : isLoud (.ld n) = false := (rfl)
@[go_sem] theorem isCall_st (n : Nat) : isCall (.st n) = false := (rfl)
@[go_sem] theorem isLoud_st (n : Nat) : isLoud (.st n) = true := (rfl)
@[go_sem] theorem isCall_fa (o : Nat) : isCall (.fa o) = false := (rfl)
@[go_sem] theorem isLoud_fa (o : Nat) : isLoud (.fa o) = false := (rfl)
@[go_sem] theorem isCall_fld (o : Nat) (n : Option Nat) : isCall (.fld o n) = false := (rfl)
@[go_sem] theorem isLoud_fld (o : Nat) (n : Option Nat) : isLoud (.fld o n) = false := (rfl)
@[go_sem] theorem isCall_ia (k : Nat) : isCall (.ia k) = false := (rfl)
@[go_sem] theorem isLoud_ia (k : Nat) : isLoud (.ia k) = false := (rfl)
@[go_sem] theorem isCall_iar (len k : Nat) : isCall (.iar len k) = false := (rfl)
@[go_sem] theorem isLoud_iar (len k : Nat) : isLoud (.iar len k) = false := (rfl)
@[go_sem] theorem isCall_slc (k : Nat) (lo hi : Bool) : isCall (.slc k lo hi) = false := (rfl)
@[go_sem] theorem isLoud_slc (k : Nat) (lo hi : Bool) : isLoud (.slc k lo hi) = false := (rfl)
@[go_sem] theorem isCall_slc3  : isCall .slc3 = false := (rfl)
@[go_sem] theorem isLoud_slc3  : isLoud .slc3 = false := (rfl)
@[go_sem] theorem isCall_mks (k : Nat) (z : List V) (fz : Bool) : isCall (.mks k z fz) = false := (rfl)
@[go_sem] theorem isLoud_mks (k : Nat) (z : List V) (fz : Bool) : isLoud (.mks k z fz) = false := (rfl)
@[go_sem] theorem isCall_len  : isCall .len = false := (rfl)
@[go_sem] theorem isLoud_len  : isLoud .len = false := (rfl)
@[go_sem] theorem isCall_slen  : isCall .slen = false := (rfl)
@[go_sem] theorem isLoud_slen  : isLoud .slen = false := (rfl)
@[go_sem] theorem isCall_app (k : Nat) : isCall (.app k) = false := (rfl)
@[go_sem] theorem isLoud_app (k : Nat) : isLoud (.app k) = true := (rfl)
@[go_sem] theorem isCall_cpy (k : Nat) : isCall (.cpy k) = false := (rfl)
@[go_sem] theorem isLoud_cpy (k : Nat) : isLoud (.cpy k) = true := (rfl)
@[go_sem] theorem isCall_clr (k : Nat) (z : List V) : isCall (.clr k z) = false := (rfl)
@[go_sem] theorem isLoud_clr (k : Nat) (z : List V) : isLoud (.clr k z) = true := (rfl)
@[go_sem] theorem isCall_mx  : isCall .mx = false := (rfl)
@[go_sem] theorem isLoud_mx  : isLoud .mx = false := (rfl)
@[go_sem] theorem isCall_mn  : isCall .mn = false := (rfl)
@[go_sem] theorem isLoud_mn  : isLoud .mn = false := (rfl)
@[go_sem] theorem isCall_ext (i : Nat) : isCall (.ext i) = false := (rfl)
@[go_sem] theorem isLoud_ext (i : Nat) : isLoud (.ext i) = false := (rfl)
@[go_sem] theorem isCall_mkf (f : Nat) : isCall (.mkf f) = false := (rfl)
@[go_sem] theorem isLoud_mkf (f : Nat) : isLoud (.mkf f) = false := (rfl)
@[go_sem] theorem isCall_capo  : isCall .capo = false := (rfl)
@[go_sem] theorem isLoud_capo  : isLoud .capo = false := (rfl)
@[go_sem] theorem isCall_appz (k : Nat) (z : List V) : isCall (.appz k z) = false := (rfl)
@[go_sem] theorem isLoud_appz (k : Nat) (z : List V) : isLoud (.appz k z) = false := (rfl)
@[go_sem] theorem isCall_mkm  : isCall .mkm = false := (rfl)
@[go_sem] theorem isLoud_mkm  : isLoud .mkm = false := (rfl)
@[go_sem] theorem isCall_mlk (st : Bool) (ks : List Nat) (z : V) (two : Bool) : isCall (.mlk st ks z two) = false := (rfl)
@[go_sem] theorem isLoud_mlk (st : Bool) (ks : List Nat) (z : V) (two : Bool) : isLoud (.mlk st ks z two) = false := (rfl)
@[go_sem] theorem isCall_mup (st : Bool) (ks : List Nat) : isCall (.mup st ks) = false := (rfl)
@[go_sem] theorem isLoud_mup (st : Bool) (ks : List Nat) : isLoud (.mup st ks) = true := (rfl)
@[go_sem] theorem isCall_mrg  : isCall .mrg = false := (rfl)
@[go_sem] theorem isLoud_mrg  : isLoud .mrg = false := (rfl)
@[go_sem] theorem isCall_ent  : isCall .ent = false := (rfl)
@[go_sem] theorem isLoud_ent  : isLoud .ent = false := (rfl)
@[go_sem] theorem lkI_mv  (vs : List V) : lkI .mv vs = some [] := (rfl)
@[go_sem] theorem lkI_pick  (vs : List V) : lkI .pick vs = some [] := (rfl)
@[go_sem] theorem lkI_bin (o : BinOp) (vs : List V) : lkI (.bin o) vs = some [] := (rfl)
@[go_sem] theorem lkI_bb (o : BinOp) (vs : List V) : lkI (.bb o) vs = some [] := (rfl)
@[go_sem] theorem lkI_eqs (b : Bool) (ks : List Nat) (vs : List V) : lkI (.eqs b ks) vs = some [] := (rfl)
@[go_sem] theorem lkI_nilq (k : Nat) (b : Bool) (vs : List V) : lkI (.nilq k b) vs = none := (rfl)
@[go_sem] theorem lkI_un (o : UnOp) (vs : List V) : lkI (.un o) vs = some [] := (rfl)
@[go_sem] theorem lkI_conv (k : IntKind) (vs : List V) : lkI (.conv k) vs = some [] := (rfl)
@[go_sem] theorem lkI_box (n : Option Nat) (vs : List V) : lkI (.box n) vs = some [] := (rfl)
@[go_sem] theorem lkI_alloc (z : List V) (vs : List V) : lkI (.alloc z) vs = some [] := (rfl)
@[go_sem] theorem lkI_bld (z : List V) (ps : List (Nat × Nat)) (vs : List V) : lkI (.bld z ps) vs = some [] := (rfl)
@[go_sem] theorem lkI_bsl (k : Nat) (z : List V) (ps : List Nat) (n : Nat) (fz : Bool) (vs : List V) : lkI (.bsl k z ps n fz) vs = some [] := (rfl)
@[go_sem] theorem lkI_ld (n : Option Nat) (vs : List V) : lkI (.ld n) vs = some (vs.flatMap vid) := (rfl)
@[go_sem] theorem lkI_st (n : Nat) (vs : List V) : lkI (.st n) vs = some (vs.flatMap vid) := (rfl)
@[go_sem] theorem lkI_fa (o : Nat) (vs : List V) : lkI (.fa o) vs = some (vs.flatMap vid) := (rfl)
@[go_sem] theorem lkI_fld (o : Nat) (n : Option Nat) (vs : List V) : lkI (.fld o n) vs = some [] := (rfl)
@[go_sem] theorem lkI_ia (k : Nat) (vs : List V) : lkI (.ia k) vs = some (vs.flatMap vid) := (rfl)
@[go_sem] theorem lkI_iar (len k : Nat) (vs : List V) : lkI (.iar len k) vs = some (vs.flatMap vid) := (rfl)
@[go_sem] theorem lkI_slc (k : Nat) (lo hi : Bool) (vs : List V) : lkI (.slc k lo hi) vs = some (vs.flatMap vid) := (rfl)
@[go_sem] theorem lkI_slc3  (vs : List V) : lkI .slc3 vs = none := (rfl)
@[go_sem] theorem lkI_mks (k : Nat) (z : List V) (fz : Bool) (vs : List V) : lkI (.mks k z fz) vs = some [] := (rfl)
@[go_sem] theorem lkI_len  (vs : List V) : lkI .len vs = some [] := (rfl)
@[go_sem] theorem lkI_slen  (vs : List V) : lkI .slen vs = some [] := (rfl)
@[go_sem] theorem lkI_app (k : Nat) (vs : List V) : lkI (.app k) vs = some (vs.flatMap vid) := (rfl)
@[go_sem] theorem lkI_cpy (k : Nat) (vs : List V) : lkI (.cpy k) vs = none := (rfl)
@[go_sem] theorem lkI_clr (k : Nat) (z : List V) (vs : List V) : lkI (.clr k z) vs = none := (rfl)
@[go_sem] theorem lkI_mx  (vs : List V) : lkI .mx vs = some [] := (rfl)
@[go_sem] theorem lkI_mn  (vs : List V) : lkI .mn vs = some [] := (rfl)
@[go_sem] theorem lkI_ext (i : Nat) (vs : List V) : lkI (.ext i) vs = some [] := (rfl)
@[go_sem] theorem lkI_mkf (f : Nat) (vs : List V) : lkI (.mkf f) vs = some [] := (rfl)
@[go_sem] theorem lkI_capo  (vs : List V) : lkI .capo vs = none := (rfl)
@[go_sem] theorem lkI_appz (k : Nat) (z : List V) (vs : List V) : lkI (.appz k z) vs = none := (rfl)
@[go_sem] theorem lkI_mkm  (vs : List V) : lkI .mkm vs = none := (rfl)
@[go_sem] theorem lkI_mlk (st : Bool) (ks : List Nat) (z : V) (two : Bool) (vs : List V) : lkI (.mlk st ks z two) vs = none := (rfl)
@[go_sem] theorem lkI_mup (st : Bool) (ks : List Nat) (vs : List V) : lkI (.mup st ks) vs = none := (rfl)
@[go_sem] theorem lkI_mrg  (vs : List V) : lkI .mrg vs = none := (rfl)
@[go_sem] theorem lkI_ent  (vs : List V) : lkI .ent vs = none := (rfl)
@[go_sem] theorem op_mkm  (ob : OB) (i : Nat) : opF .mkm [] ob i = some (.mp i, [(i, some ⟨0, [], none⟩)]) := (rfl)
@[go_sem] theorem op_mlk (st : Bool) (ks : List Nat) (z : V) (two : Bool) (id : Nat) (k : V) (ob : OB) (i : Nat) : opF (.mlk st ks z two) [.mp id, k] ob i = (ob id).bind fun o => if keyOk st ks k then (posM st ks k o.l).map fun q => (if two then .tp [valM z o.l q, .c (.bool q.isSome)] else valM z o.l q, []) else none := (rfl)
@[go_sem] theorem op_mup (st : Bool) (ks : List Nat) (id : Nat) (k v : V) (ob : OB) (i : Nat) : opF (.mup st ks) [.mp id, k, v] ob i = (ob id).bind fun o => if keyOk st ks k then (posM st ks k o.l).map fun q => (.u, [(id, some ⟨0, setM k v o.l q, none⟩)]) else none := (rfl)
@[go_sem] theorem op_mrg (id : Nat) (ob : OB) (i : Nat) : opF .mrg [.mp id] ob i = (ob id).bind fun o => some (.mi i, [(i, some ⟨0, [[.mp id, .c (.int .i64 (o.l.length : Int))]], none⟩)]) := (rfl)
@[go_sem] theorem op_mv (x : V) (ob : OB) (i : Nat) : opF .mv [x] ob i = some (x, []) := (rfl)
@[go_sem] theorem op_pick (b x y : V) (ob : OB) (i : Nat) : opF .pick [b, x, y] ob i = (toBool b).map fun b => (if b then x else y, []) := (rfl)
@[go_sem] theorem op_bin (o : BinOp) (a b : V) (ob : OB) (i : Nat) : opF (.bin o) [a, b] ob i = (toC a).bind fun a => (toC b).bind fun b => (binS o a b).map fun r => (.c r, []) := (rfl)
@[go_sem] theorem op_bb (o : BinOp) (a b : V) (ob : OB) (i : Nat) : opF (.bb o) [a, b] ob i = (toBool a).bind fun a => (toBool b).bind fun b => (boolOp o a b).map fun r => (.c (.bool r), []) := (rfl)
@[go_sem] theorem op_eqs (n : Bool) (ks : List Nat) (x y : List V) (ob : OB) (i : Nat) : opF (.eqs n ks) [.ag x, .ag y] ob i = (eqCells ks x y).map fun q => (.c (.bool (if n then !q else q)), []) := (rfl)
@[go_sem] theorem op_nilq (k : Nat) (n : Bool) (x : V) (ob : OB) (i : Nat) : opF (.nilq k n) [x] ob i = (isNil ob k x).map fun v => (negV n v, []) := (rfl)
@[go_sem] theorem op_un (o : UnOp) (a : V) (ob : OB) (i : Nat) : opF (.un o) [a] ob i = (toC a).bind fun a => (unS o a).map fun r => (.c r, []) := (rfl)
@[go_sem] theorem op_conv (k : IntKind) (a : V) (ob : OB) (i : Nat) : opF (.conv k) [a] ob i = (toInt a).map fun n => (.c (.int k (k.wrap n)), []) := (rfl)
@[go_sem] theorem op_box (n : Option Nat) (x : V) (ob : OB) (i : Nat) : opF (.box n) [x] ob i = if okRow (n.getD 1) (cellsV x) then some (.pt i 0 0, [(i, some ⟨n.getD 1, [cellsV x], none⟩)]) else none := (rfl)
@[go_sem] theorem op_alloc (z : List V) (ob : OB) (i : Nat) : opF (.alloc z) [] ob i = some (.pt i 0 0, [(i, some ⟨z.length, [z], none⟩)]) := (rfl)
@[go_sem] theorem op_bld (z : List V) (ps : List (Nat × Nat)) (vs : List V) (ob : OB) (i : Nat) : opF (.bld z ps) vs ob i = (fill z ps vs).map fun l => (.ag l, []) := (rfl)
@[go_sem] theorem op_ld (n : Option Nat) (a : V) (ob : OB) (i : Nat) : opF (.ld n) [a] ob i = (ldV ob n a).map fun v => (v, []) := (rfl)
@[go_sem] theorem op_fa (o : Nat) (a : V) (ob : OB) (i : Nat) : opF (.fa o) [a] ob i = (faV ob o a).map fun v => (v, []) := (rfl)
@[go_sem] theorem op_fld (o : Nat) (n : Option Nat) (a : V) (ob : OB) (i : Nat) : opF (.fld o n) [a] ob i = (toAg a).bind fun l => if o + n.getD 1 ≤ l.length then (pack n ((l.drop o).take (n.getD 1))).map fun v => (v, []) else none := (rfl)
@[go_sem] theorem op_ia (k : Nat) (x j : V) (ob : OB) (i : Nat) : opF (.ia k) [x, j] ob i = (toInt j).bind fun j => (iaV ob k x j).map fun v => (v, []) := (rfl)
@[go_sem] theorem op_iar (n k : Nat) (x j : V) (ob : OB) (i : Nat) : opF (.iar n k) [x, j] ob i = (toInt j).bind fun j => if 0 ≤ j ∧ j < n then (faV ob (j.toNat * k) x).map fun v => (v, []) else none := (rfl)
@[go_sem] theorem op_slc00 (k : Nat) (x : V) (ob : OB) (i : Nat) : opF (.slc k false false) [x] ob i = (sliceV ob k x none none).map fun v => (v, []) := (rfl)
@[go_sem] theorem op_slc10 (k : Nat) (x a : V) (ob : OB) (i : Nat) : opF (.slc k true false) [x, a] ob i = (toInt a).bind fun a => (sliceV ob k x (some a) none).map fun v => (v, []) := (rfl)
@[go_sem] theorem op_slc01 (k : Nat) (x a : V) (ob : OB) (i : Nat) : opF (.slc k false true) [x, a] ob i = (toInt a).bind fun a => (sliceV ob k x none (some a)).map fun v => (v, []) := (rfl)
@[go_sem] theorem op_slc11 (k : Nat) (x a b : V) (ob : OB) (i : Nat) : opF (.slc k true true) [x, a, b] ob i = (toInt a).bind fun a => (toInt b).bind fun b => (sliceV ob k x (some a) (some b)).map fun v => (v, []) := (rfl)
@[go_sem] theorem op_mks (k : Nat) (z : List V) (fz : Bool) (n m : V) (ob : OB) (i : Nat) : opF (.mks k z fz) [n, m] ob i = (toInt n).bind fun n => (toInt m).bind fun m => if n = m ∧ 0 ≤ n ∧ n ≤ maxLen then (if fz then some (.im .b (List.replicate n.toNat z), []) else some (.sl i 0 n.toNat, [(i, some ⟨k, List.replicate n.toNat z, none⟩)])) else none := (rfl)
@[go_sem] theorem op_len (x : V) (ob : OB) (i : Nat) : opF .len [x] ob i = (lenOf x).map fun (n : Nat) => (.c (.int .i64 (n : Int)), []) := (rfl)
@[go_sem] theorem op_slen (x : V) (ob : OB) (i : Nat) : opF .slen [x] ob i = (toStr x).map fun s => (.c (.int .i64 (s.size : Int)), []) := (rfl)
@[go_sem] theorem op_st (n : Nat) (a v : V) (ob : OB) (i : Nat) : opF (.st n) [a, v] ob i = (toPt a).bind fun q => (ob q.1).bind fun x => (x.l[q.2.1]?).bind fun row => if (cellsV v).length = n ∧ (cellsV v).all leaf ∧ q.2.2 + n ≤ row.length then some (.u, [(q.1, some ⟨x.k, x.l.set q.2.1 (row.take q.2.2 ++ cellsV v ++ row.drop (q.2.2 + n)), x.cap⟩)]) else none := (rfl)
@[go_sem] theorem op_mx (a b : V) (ob : OB) (i : Nat) : opF .mx [a, b] ob i = (toC a).bind fun a => (toC b).bind fun b => (mxS a b).map fun r => (.c r, []) := (rfl)
@[go_sem] theorem op_mn (a b : V) (ob : OB) (i : Nat) : opF .mn [a, b] ob i = (toC a).bind fun a => (toC b).bind fun b => (mnS a b).map fun r => (.c r, []) := (rfl)
@[go_sem] theorem op_ext (j : Nat) (a : V) (ob : OB) (i : Nat) : opF (.ext j) [a] ob i = (toTp a).bind fun l => (l[j]?).map fun v => (v, []) := (rfl)
@[go_sem] theorem op_appz (k : Nat) (z : List V) (id off len : Nat) (n : V) (ob : OB) (i : Nat) : opF (.appz k z) [.sl id off len, n] ob i = (toInt n).bind fun n => (ob id).bind fun o => o.cap.bind fun c => if o.k = k ∧ off = 0 ∧ len ≤ o.l.length ∧ 0 < n ∧ len + n.toNat ≤ maxLen ∧ c < len + n.toNat then some (.sl i 0 (len + n.toNat), [(i, some ⟨k, o.l.take len ++ List.replicate n.toNat z, none⟩)]) else none := (rfl)
@[go_sem] theorem op_capo (x : V) (ob : OB) (i : Nat) : opF .capo [x] ob i = (capS ob x).map fun (n : Nat) => (.c (.int .i64 (n : Int)), []) := (rfl)
@[go_sem] theorem op_cpy (k id off len : Nat) (x : V) (ob : OB) (i : Nat) : opF (.cpy k) [.sl id off len, x] ob i = (rowsOf ob x).bind fun xs => (ob id).bind fun o => if (xs.take len).all (okRow k) = true ∧ o.k = k ∧ off + len ≤ o.l.length then some (.c (.int .i64 ((min xs.length len : Nat) : Int)), [(id, some ⟨k, over o.l off (xs.take len), o.cap⟩)]) else none := (rfl)
@[go_sem] theorem op_clr (k : Nat) (z : List V) (id off len : Nat) (ob : OB) (i : Nat) : opF (.clr k z) [.sl id off len] ob i = (ob id).bind fun o => if o.k = k ∧ off + len ≤ o.l.length then some (.tp [], [(id, some ⟨k, over o.l off (List.replicate len z), o.cap⟩)]) else none := (rfl)
@[go_sem] theorem op_clrb (k : Nat) (z : List V) (f : Fl) (ob : OB) (i : Nat) : opF (.clr k z) [.im f []] ob i = some (.tp [], []) := (rfl)
@[go_sem] theorem op_mkf (f : Nat) (vs : List V) (ob : OB) (i : Nat) : opF (.mkf f) vs ob i = some (.fn f vs, []) := (rfl)
@[go_sem] theorem toBool_c (b : Bool) : toBool (.c (.bool b)) = some b := (rfl)
@[go_sem] theorem toC_c (v : Value) : toC (.c v) = some v := (rfl)
@[go_sem] theorem toInt_c (k : IntKind) (n : Int) : toInt (.c (.int k n)) = some n := (rfl)
@[go_sem] theorem toPt_c (a b c : Nat) : toPt (.pt a b c) = some (a, b, c) := (rfl)
@[go_sem] theorem toAg_c (l : List V) : toAg (.ag l) = some l := (rfl)
@[go_sem] theorem toTp_c (l : List V) : toTp (.tp l) = some l := (rfl)
@[go_sem] theorem toStr_c (s : ByteArray) : toStr (.c (.string s)) = some s := (rfl)
@[go_sem] theorem binS_s (o : BinOp) (a b : ByteArray) : binS o (.string a) (.string b) = strsOp o a b := (rfl)
@[go_sem] theorem io_add (k : IntKind) (a b : Int) : intsOp .add k a b = some (.int k (k.wrap (a + b))) := (rfl)
@[go_sem] theorem io_sub (k : IntKind) (a b : Int) : intsOp .sub k a b = some (.int k (k.wrap (a - b))) := (rfl)
@[go_sem] theorem io_mul (k : IntKind) (a b : Int) : intsOp .mul k a b = some (.int k (k.wrap (a * b))) := (rfl)
@[go_sem] theorem io_quo (k : IntKind) (a b : Int) : intsOp .quo k a b = if b = 0 then none else some (.int k (k.wrap (a.tdiv b))) := (rfl)
@[go_sem] theorem io_rem (k : IntKind) (a b : Int) : intsOp .rem k a b = if b = 0 then none else some (.int k (a.tmod b)) := (rfl)
@[go_sem] theorem io_eql (k : IntKind) (a b : Int) : intsOp .eql k a b = some (.bool (decide (a = b))) := (rfl)
@[go_sem] theorem io_neq (k : IntKind) (a b : Int) : intsOp .neq k a b = some (.bool (!decide (a = b))) := (rfl)
@[go_sem] theorem io_lss (k : IntKind) (a b : Int) : intsOp .lss k a b = some (.bool (decide (a < b))) := (rfl)
@[go_sem] theorem io_leq (k : IntKind) (a b : Int) : intsOp .leq k a b = some (.bool (decide (a ≤ b))) := (rfl)
@[go_sem] theorem io_gtr (k : IntKind) (a b : Int) : intsOp .gtr k a b = some (.bool (decide (b < a))) := (rfl)
@[go_sem] theorem io_geq (k : IntKind) (a b : Int) : intsOp .geq k a b = some (.bool (decide (b ≤ a))) := (rfl)
@[go_sem] theorem capS_z (ob : OB) : capS ob .z = some 0 := (rfl)
@[go_sem] theorem capS_sl (ob : OB) (id off len : Nat) : capS ob (.sl id off len) = (ob id).bind fun o => o.cap.map fun c => c - off := (rfl)
@[go_sem] theorem eqc_n  : eqCells [] [] [] = some true := (rfl)
@[go_sem] theorem eqc_c (k : Nat) (ks : List Nat) (a b : Value) (l m : List V) : eqCells (k :: ks) (.c a :: l) (.c b :: m) = (eqS k a b).bind fun p => (eqCells ks l m).map fun q => p && q := (rfl)
@[go_sem] theorem eqS_1 (a b : ByteArray) : eqS 1 (.string a) (.string b) = some (decide (a.toList = b.toList)) := (rfl)
@[go_sem] theorem eqS_2 (a b : Bool) : eqS 2 (.bool a) (.bool b) = some (a == b) := (rfl)
@[go_sem] theorem bo_eql (a b : Bool) : boolOp .eql a b = some (a == b) := (rfl)
@[go_sem] theorem bo_neq (a b : Bool) : boolOp .neq a b = some (!(a == b)) := (rfl)
@[go_sem] theorem un_not (b : Bool) : unS .not (.bool b) = some (.bool !b) := (rfl)
@[go_sem] theorem un_neg (k : IntKind) (n : Int) : unS .neg (.int k n) = some (.int k (k.wrap (0 - n))) := (rfl)
@[go_sem] theorem cells_ag (l : List V) : cellsV (.ag l) = l := (rfl)
@[go_sem] theorem cells_c (v : Value) : cellsV (.c v) = [.c v] := (rfl)
@[go_sem] theorem cells_im (f : Fl) (l : List (List V)) : cellsV (.im f l) = [.im f l] := (rfl)
@[go_sem] theorem cells_sl (a b c : Nat) : cellsV (.sl a b c) = [.sl a b c] := (rfl)
@[go_sem] theorem cells_z  : cellsV .z = [.z] := (rfl)
@[go_sem] theorem cells_pt (a b c : Nat) : cellsV (.pt a b c) = [.pt a b c] := (rfl)
@[go_sem] theorem cells_fn (f : Nat) (l : List V) : cellsV (.fn f l) = [.fn f l] := (rfl)
@[go_sem] theorem cells_bp (l : List V) : cellsV (.bp l) = [.bp l] := (rfl)
@[go_sem] theorem pack_n (v : V) : pack none [v] = some v := (rfl)
@[go_sem] theorem pack_s (n : Nat) (l : List V) : pack (some n) l = if l.length = n then some (.ag l) else none := (rfl)
@[go_sem] theorem len_im (f : Fl) (l : List (List V)) : lenOf (.im f l) = some l.length := (rfl)
@[go_sem] theorem len_z  : lenOf .z = some 0 := (rfl)
@[go_sem] theorem len_sl (a b c : Nat) : lenOf (.sl a b c) = some c := (rfl)
@[go_sem] theorem ld_pt (ob : OB) (n : Option Nat) (id i o : Nat) : ldV ob n (.pt id i o) = (ob id).bind fun x => (x.l[i]?).bind fun row => if o + n.getD 1 ≤ row.length then pack n ((row.drop o).take (n.getD 1)) else none := (rfl)
@[go_sem] theorem ld_bp (ob : OB) (n : Option Nat) (l : List V) : ldV ob n (.bp l) = if n.getD 1 ≤ l.length then pack n (l.take (n.getD 1)) else none := (rfl)
@[go_sem] theorem fa_pt (ob : OB) (o id i p : Nat) : faV ob o (.pt id i p) = (ob id).bind fun _ => some (.pt id i (p + o)) := (rfl)
@[go_sem] theorem fa_bp (ob : OB) (o : Nat) (l : List V) : faV ob o (.bp l) = some (.bp (l.drop o)) := (rfl)
@[go_sem] theorem rows_im (ob : OB) (f : Fl) (l : List (List V)) : rowsOf ob (.im f l) = some l := (rfl)
@[go_sem] theorem rows_z (ob : OB) : rowsOf ob .z = some [] := (rfl)
@[go_sem] theorem rows_sl (ob : OB) (id off len : Nat) : rowsOf ob (.sl id off len) = (ob id).bind fun o => if off + len ≤ o.l.length then some ((o.l.drop off).take len) else none := (rfl)
@[go_sem] theorem neg_q (n : Bool) : negV n .q = .q := (rfl)
@[go_sem] theorem neg_c (n b : Bool) : negV n (.c (.bool b)) = .c (.bool (if n then !b else b)) := (rfl)
@[go_sem] theorem nil0_z (ob : OB) : isNil ob 0 .z = some .q := (rfl)
@[go_sem] theorem nil0_c (ob : OB) (f : Fl) (r : List V) (l : List (List V)) : isNil ob 0 (.im f (r :: l)) = some (.c (.bool false)) := (rfl)
@[go_sem] theorem nil0_n (ob : OB) (f : Fl) : isNil ob 0 (.im f []) = some .q := (rfl)
@[go_sem] theorem nil0_s (ob : OB) (a b c : Nat) : isNil ob 0 (.sl a b c) = (ob a).map fun _ => .c (.bool false) := (rfl)
@[go_sem] theorem res_c (ob : OB) (n : Nat) (v : Value) : resV ob (n + 1) (.c v) = .c v := (rfl)
@[go_sem] theorem res_z (ob : OB) (n : Nat) : resV ob (n + 1) .z = .im .b [] := (rfl)
@[go_sem] theorem res_im (ob : OB) (n : Nat) (f : Fl) (l : List (List V)) : resV ob (n + 1) (.im f l) = .im (resFl f) (l.map fun r => r.map (resV ob n)) := (rfl)
@[go_sem] theorem resFl_b  : resFl .b = .b := (rfl)
@[go_sem] theorem resFl_n  : resFl .n = .n := (rfl)
@[go_sem] theorem res_fn (ob : OB) (n f : Nat) (l : List V) : resV ob (n + 1) (.fn f l) = .fn f (l.map (resV ob n)) := (rfl)
@[go_sem] theorem res_ag (ob : OB) (n : Nat) (l : List V) : resV ob (n + 1) (.ag l) = .ag (l.map (resV ob n)) := (rfl)
@[go_sem] theorem res_bp (ob : OB) (n : Nat) (l : List V) : resV ob (n + 1) (.bp l) = .bp (l.map (resV ob n)) := (rfl)
@[go_sem] theorem g_c (ob : OB) (n : Nat) (v : Value) : gV ob (n + 1) (.c v) = .c v := (rfl)
@[go_sem] theorem g_z (ob : OB) (n : Nat) : gV ob (n + 1) .z = .im .b [] := (rfl)
@[go_sem] theorem g_imb (ob : OB) (n : Nat) (l : List (List V)) : gV ob (n + 1) (.im .b l) = .im .b (l.map fun r => r.map (gV ob n)) := (rfl)
@[go_sem] theorem imp_fb (i : Nat) (l : List (List V)) : imp .fz i (.im .b l) = (.im .b l, []) := (rfl)
@[go_sem] theorem frz1_b (l : List (List V)) : frz1 (.im .b l) = .im .b l := (rfl)
@[go_sem] theorem g_ag (ob : OB) (n : Nat) (l : List V) : gV ob (n + 1) (.ag l) = .ag (l.map (gV ob n)) := (rfl)
@[go_sem] theorem out_n (ob : OB) : outL ob [] = [] := (rfl)
@[go_sem] theorem out_c (ob : OB) (v : Value) (l : List V) : outL ob (.c v :: l) = gV ob 6 (.c v) :: l.map (gV ob 6) := (rfl)
@[go_sem] theorem out_z (ob : OB) (l : List V) : outL ob (.z :: l) = .im .o [] :: l.map (gV ob 6) := (rfl)
@[go_sem] theorem out_im (ob : OB) (f : Fl) (s : List (List V)) (l : List V) : outL ob (.im f s :: l) = gV ob 6 (.im f s) :: l.map (gV ob 6) := (rfl)
@[go_sem] theorem out_ag (ob : OB) (s : List V) (l : List V) : outL ob (.ag s :: l) = gV ob 6 (.ag s) :: l.map (gV ob 6) := (rfl)
@[go_sem] theorem ret_c (v : Value) : retV [.c v] = .c v := (rfl)
@[go_sem] theorem ret_im (f : Fl) (l : List (List V)) : retV [.im f l] = .im f l := (rfl)
@[go_sem] theorem ret_ag (l : List V) : retV [.ag l] = .ag l := (rfl)
@[go_sem] theorem imp_fc (i : Nat) (v : Value) : imp .fz i (.c v) = (.c v, []) := (rfl)
@[go_sem] theorem imp_fi (i : Nat) (l : List (List V)) : imp .fz i (.im .o l) = (.im .b l, []) := (rfl)
@[go_sem] theorem imp_ft (i : Nat) (l : List V) : imp .fz i (.tp l) = (.tp (l.map frz1), []) := (rfl)
@[go_sem] theorem imp_fa (i : Nat) (l : List V) : imp .fz i (.ag l) = (.ag l, []) := (rfl)
@[go_sem] theorem frz1_o (l : List (List V)) : frz1 (.im .o l) = .im .b l := (rfl)
@[go_sem] theorem frz1_c (v : Value) : frz1 (.c v) = .c v := (rfl)
@[go_sem] theorem imp_oc (k i : Nat) (v : Value) : imp (.own k) i (.c v) = (.c v, []) := (rfl)
@[go_sem] theorem imp_oi (k i : Nat) (l : List (List V)) : imp (.own k) i (.im .o l) = if l.length = 0 then (.z, []) else (.sl i 0 l.length, [(i, some ⟨k, l, none⟩)]) := (rfl)
@[go_sem] theorem eqS_0 (k : IntKind) (a b : Int) : eqS 0 (.int k a) (.int k b) = some (decide (a = b)) := by simp [eqS]
@[go_sem] theorem io_shr1 (a : Int) : intsOp .shr .u64 a 1 = some (.int .u64 (a / 2)) := by simp [intsOp, IntKind.bits]
@[go_sem] theorem binS_i (o : BinOp) (k : IntKind) (a b : Int) : binS o (.int k a) (.int k b) = intsOp o k a b := by simp [binS]
@[go_sem] theorem ret_t (a b : V) (l : List V) : retV (a :: b :: l) = .tp (a :: b :: l) := by cases a <;> rfl
@[go_sem] theorem imp_ot (k i : Nat) (s : List (List V)) (l : List V) : imp (.own k) i (.tp (.im .o s :: l)) = if s.length = 0 then (.tp (.z :: l), []) else (.tp (.sl i 0 s.length :: l), [(i, some ⟨k, s, none⟩)]) := by by_cases h : s.length = 0 <;> simp [imp, impL, isO, impO, h]
@[go_sem] theorem bind_s {α β : Type} (a : α) (f : α → Option β) : (some a).bind f = f a := (rfl)
@[go_sem] theorem map_s {α β : Type} (a : α) (f : α → β) : (some a).map f = some (f a) := (rfl)
@[go_sem] theorem ite_t {α : Type} {_ : Decidable True} (a b : α) : (if True then a else b) = a := if_pos trivial
@[go_sem] theorem ite_f {α : Type} {_ : Decidable False} (a b : α) : (if False then a else b) = b := if_neg id
@[go_sem] theorem ite_bt {α : Type} (a b : α) : (if true = true then a else b) = a := (rfl)
@[go_sem] theorem ite_bf {α : Type} (a b : α) : (if false = true then a else b) = b := (rfl)
@[go_sem] theorem ite_not {α : Type} (b : Bool) (x y : α) : (if (!b) = true then x else y) = if b = true then y else x := by cases b <;> rfl
@[go_sem] theorem ite_in {α : Type} (b : Bool) (x y z : α) : (if b = true then (if b = true then x else z) else y) = if b = true then x else y := by cases b <;> rfl
@[go_sem] theorem ite_el {α : Type} (b : Bool) (x y z : α) : (if b = true then x else (if b = true then z else y)) = if b = true then x else y := by cases b <;> rfl
@[go_sem] theorem ite_vb (b x y : Bool) : (if b = true then V.c (.bool x) else V.c (.bool y)) = V.c (.bool (if b = true then x else y)) := by cases b <;> rfl
@[go_sem] theorem ite_and (b x : Bool) : (if b = true then x else false) = (b && x) := by cases b <;> rfl
@[go_sem] theorem ite_or (b x : Bool) : (if b = true then true else x) = (b || x) := by cases b <;> rfl
@[go_sem] theorem ite_f0 {α : Type} (b : Bool) (x y : α) : (if b = false then x else y) = if b = true then y else x := by cases b <;> rfl
@[go_sem] theorem ite_same {α : Type} (b : Bool) (x : α) : (if b = true then x else x) = x := by cases b <;> rfl
@[go_sem] theorem rows_t {ob : OB} : sliceV ob 0 .z none none = some .z := (rfl)
end Go.Proofs.YtbojpedklnmidaaGreat.D
end
section
set_option linter.unusedVariables false
set_option linter.unusedSimpArgs false
set_option linter.constructorNameAsVariable false
/- Walking over plain values: rows that stand for a list's elements. No condition. -/
namespace Go.Proofs.YtbojpedklnmidaaGreat.D
open Go Go.RowKit
abbrev vi (n : Int) : V := .c (.int .i64 n)
abbrev vb (b : Bool) : V := .c (.bool b)
def gN {α : Type} [Inhabited α] (l : List α) (n : Nat) : α := l.getD n default
theorem gN_at {α : Type} [Inhabited α] {l : List α} {n : Nat} (h : n < l.length) : l[n]? = some (gN l n) := by simp [gN, h]
theorem gN_eq {α : Type} [Inhabited α] {l : List α} {n : Nat} (h : n < l.length) : gN l n = l[n] := by simp [gN, h]
section
variable {α : Type} [Inhabited α] (g : α → List V) (l : List α)
@[go_sem] theorem ia_map (ob : OB) (k : Nat) (f : Fl) (j : Int) : iaV ob k (.im f (l.map g)) j = if (0 ≤ j ∧ j < l.length) ∧ (g (gN l j.toNat)).length = k then some (.bp (g (gN l j.toNat))) else none := by
  simp only [iaV, List.length_map]
  by_cases h : 0 ≤ j ∧ j < (l.length : Int)
  · have h1 : j.toNat < l.length := by omega
    simp only [h, and_self, if_true, true_and, List.getElem?_map, gN_at h1, Option.map_some, Option.bind_some]
  · simp only [h, if_false, false_and]
@[go_sem] theorem ia_sl (ob : OB) (k id off len : Nat) (j : Int) : iaV ob k (.sl id off len) j = (ob id).bind fun o => if 0 ≤ j ∧ j < len ∧ o.k = k then some (.pt id (off + j.toNat) 0) else none := (rfl)
@[go_sem] theorem ia_z (ob : OB) (k : Nat) (j : Int) : iaV ob k .z j = none := (rfl)
@[go_sem] theorem row_map {β : Type} (F : List V → Option β) (i : Nat) : ((l.map g)[i]?).bind F = if i < l.length then F (g (gN l i)) else none := by
  by_cases h : i < l.length
  · simp only [h, if_true, List.getElem?_map, gN_at h, Option.map_some, Option.bind_some]
  · simp only [h, if_false, List.getElem?_map]
    rw [List.getElem?_eq_none (by omega)]; rfl
end
@[go_sem] theorem sl_im (ob : OB) (k : Nat) (f : Fl) (l : List (List V)) (lo hi : Option Int) : sliceV ob k (.im f l) lo hi = if f ≠ .o ∧ (∀ ch ∈ l, ch.length = k) ∧ 0 ≤ lo.getD 0 ∧ lo.getD 0 ≤ hi.getD l.length ∧ hi.getD l.length ≤ l.length then some (.im f ((l.take (hi.getD l.length).toNat).drop (lo.getD 0).toNat)) else none := (rfl)
theorem ite_bind {α β : Type} {c : Prop} [Decidable c] (x : Option α) (f : α → Option β) : (if c then x else none).bind f = if c then x.bind f else none := by split <;> rfl
theorem ite_map {α β : Type} {c : Prop} [Decidable c] (x : Option α) (f : α → β) : (if c then x else none).map f = if c then x.map f else none := by split <;> rfl
attribute [go_sem] ite_bind ite_map
section
variable {P : Program} {nid : Nat} {env : Env} {ob : OB} {K : Env → OB → Prop} {J : Env → OB → Nat → Prop} {l : List RO} {dl : Ups} {d : Option Nat}
@[go_sem] theorem nxS_j {c : Prop} [Decidable c] {x : Option (V × Ups)} : nxS P d l nid env ob J (if c then x else none) = (c ∧ nxS P d l nid env ob J x) := by
  by_cases h : c
  · simp [h]
  · simp [h, nxS]
@[go_sem] theorem nxD_j {c : Prop} [Decidable c] {x : Option (V × Ups)} {b : Bool} : nxD P b d l nid env ob dl K (if c then x else none) = (c ∧ nxD P b d l nid env ob dl K x) := by
  by_cases h : c
  · simp [h]
  · simp [h, nxD]
end
def iv : V → Int
  | .c (.int _ n) => n
  | _ => 0
theorem iv_c (k : IntKind) (n : Int) : iv (.c (.int k n)) = n := (rfl)
theorem w64 {n : Int} (h : -9223372036854775808 ≤ n ∧ n ≤ 9223372036854775807) : IntKind.i64.wrap n = n := by
  unfold IntKind.wrap IntKind.signed IntKind.bits
  simp
  omega
def Own (n : Nat) (ob : OB) (v : V) (k : Nat) (rows : List (List V)) : Prop :=
  (rows = [] ∧ v = .z) ∨ (rows ≠ [] ∧ ∃ id cap, id < n ∧ v = .sl id 0 rows.length ∧ ob id = some ⟨k, rows, cap⟩)
theorem Own.nil {n : Nat} {ob : OB} {k : Nat} : Own n ob .z k [] := .inl ⟨rfl, rfl⟩
section
variable {P : Program} {nid : Nat} {env : Env} {ob : OB} {J : Env → OB → Nat → Prop} {l : List RO} {dl : Ups} {d : Option Nat} {n k : Nat} {v x : V} {rows xs : List (List V)}
theorem app_own (h : Own n ob v k rows) (hn : n ≤ nid) (hx : rowsOf ob x = some xs) (hk : xs.all (okRow k) = true) (hlen : rows.length + xs.length ≤ maxLen) :
    ∃ v' us, opF (.app k) [v, x] ob nid = some (v', us) ∧ Own (nid + 1) (apps ob us) v' k (rows ++ xs) ∧ ∀ id, id < n → v ≠ .sl id 0 rows.length → apps ob us id = ob id := by
  rcases h with ⟨rfl, rfl⟩ | ⟨hne, id, cap, hid, rfl, hob⟩
  · by_cases h0 : xs.length = 0
    · have : xs = [] := List.eq_nil_of_length_eq_zero h0
      subst this
      exact ⟨.z, [], by simp [opF, hx], .inl ⟨rfl, rfl⟩, fun _ _ _ => rfl⟩
    · refine ⟨.sl nid 0 xs.length, _, by simp only [opF, hx, hk, Option.bind_some, if_true, h0, if_false]; rw [if_pos (by simpa using hlen)], .inr ⟨by intro e; apply h0; simpa using congrArg List.length e, nid, none, by omega, by simp, by simp [apps, Ob.mk.injEq]⟩, fun id hid _ => ?_⟩
      simp only [apps_c, apps_n]; exact updO_o _ _ _ _ (by simp; omega)
  · by_cases h0 : xs.length = 0
    · have : xs = [] := List.eq_nil_of_length_eq_zero h0
      subst this
      refine ⟨.sl id 0 rows.length, [(id, some ⟨k, over rows rows.length [], cap⟩)], ?_, .inr ⟨by simpa using hne, id, cap, by omega, by simp, ?_⟩, fun id' hid' hv => ?_⟩
      · simp only [opF, hx, hk, Option.bind_some, if_true, hob]
        rw [if_pos ⟨trivial, by simp, by simpa using hlen⟩, if_pos (by simp)]; simp
      · simp [apps, over]
      · simp only [apps_c, apps_n]; refine updO_o _ _ _ _ ?_
        simp; intro e; subst e; exact hv rfl
    · have hop : opF (.app k) [.sl id 0 rows.length, x] ob nid = some (.sl nid 0 (rows.length + xs.length), grown cap id (rows.length + xs.length) ++ [(nid, some ⟨k, rows ++ xs, none⟩)]) := by
        simp only [opF, hx, hk, Option.bind_some, if_true, hob]
        rw [if_pos ⟨trivial, by simp, by simpa using hlen⟩, if_neg (by omega), List.take_length]
      have hgr : grown cap id (rows.length + xs.length) = [] ∨ grown cap id (rows.length + xs.length) = [(id, none)] := by
        unfold grown; split
        · split
          · exact .inl rfl
          · exact .inr rfl
        · exact .inr rfl
      refine ⟨_, _, hop, .inr ⟨by simp [hne], nid, none, by omega, by simp, ?_⟩, fun id' hid' hv => ?_⟩
      · rcases hgr with h | h <;> simp [h, apps]
      · have hne' : id' ≠ id := by intro e; subst e; exact hv rfl
        have hnn : id' ≠ nid := by omega
        rcases hgr with h | h <;> simp [h, apps, hne', hnn]
theorem nxS_app (h : Own n ob v k rows) (hn : n ≤ nid) (hx : rowsOf ob x = some xs) (hk : xs.all (okRow k) = true) (hlen : rows.length + xs.length ≤ maxLen)
    (hK : ∀ v' ob', Own (nid + 1) ob' v' k (rows ++ xs) → (∀ id, id < n → v ≠ .sl id 0 rows.length → ob' id = ob id) → wpS P l (nid + 1) (put env d v') ob' J) : nxS P d l nid env ob J (opF (.app k) [v, x] ob nid) := by
  obtain ⟨v', us, e, h1, h2⟩ := app_own h hn hx hk hlen
  rw [e]
  exact hK _ _ h1 h2
theorem out_own (h : Own n ob v k rows) (hg : ∀ ob', ∀ r ∈ rows, r.map (gV ob' 6) = r) (vs : List V) (hvs : ∀ ob', vs.map (gV ob' 6) = vs) : outL ob (v :: vs) = .im .o rows :: vs := by
  rcases h with ⟨rfl, rfl⟩ | ⟨hne, id, cap, hid, rfl, hob⟩
  · simp [outL, hvs]
  · have : ¬ rows.length = 0 := fun e => hne (List.eq_nil_of_length_eq_zero e)
    simp only [outL, rowsOf, hob, Option.bind_some]
    rw [if_pos (by simp)]
    simp only [List.drop_zero, List.take_length, this, if_false, hvs]
    congr 2
    rw [List.map_congr_left (g := fun r => r) (fun r hr => hg _ r hr)]; simp
end
def ints (f : Fl) (l : List Int) : V := .im f (l.map fun n => [vi n])
@[go_sem] theorem set_map {α : Type} (g : α → List V) (l : List α) (i : Nat) (x : α) : (l.map g).set i (g x) = (l.set i x).map g := by rw [List.map_set]
@[go_sem] theorem set_ints (l : List Int) (i : Nat) (n : Int) : (l.map fun n => [vi n]).set i [vi n] = (l.set i n).map fun n => [vi n] := by rw [List.map_set]
@[go_sem] theorem cat_ints (l : List Int) (n : Int) : (l.map fun n => [vi n]) ++ [[vi n]] = (l ++ [n]).map fun n => [vi n] := by simp
@[go_sem] theorem rep_ints (k : Nat) (n : Int) : List.replicate k [vi n] = (List.replicate k n).map fun n => [vi n] := by simp
def intRows (f : Fl) (l : List (List Int)) : V := .im f (l.map fun v => [ints .b v])
theorem all_map {α : Type} (g : α → List V) (k : Nat) (h : ∀ a, okRow k (g a) = true) (l : List α) : (l.map g).all (okRow k) = true := by simp [h]
@[go_sem] theorem nil_map {α : Type} (g : α → List V) (ob : OB) (f : Fl) (l : List α) : isNil ob 0 (.im f (l.map g)) = some (if l = [] then .q else .c (.bool false)) := by cases l <;> rfl
theorem g_map {α : Type} (g : α → List V) (h : ∀ ob' a, (g a).map (gV ob' 6) = g a) (ob' : OB) (l : List α) : ∀ r ∈ l.map g, r.map (gV ob' 6) = r := by
  intro r hr; obtain ⟨n, _, rfl⟩ := List.mem_map.1 hr; exact h _ _
theorem allInts (l : List Int) : (l.map fun n => [vi n]).all (okRow 1) = true := all_map _ _ (fun _ => rfl) l
theorem gInts (ob' : OB) (l : List Int) : ∀ r ∈ l.map (fun n => [vi n]), r.map (gV ob' 6) = r := g_map _ (fun _ _ => rfl) ob' l
@[go_sem] theorem op_bsl0 (k : Nat) (z : List V) (fz : Bool) (ob : OB) (i : Nat) : opF (.bsl k z [] 0 fz) [] ob i = some (.z, []) := by
  simp [opF, fill]
@[go_sem] theorem op_bsl_1 (z a : V) (ob : OB) (i : Nat) (h : okRow 1 (cellsV a) = true) : opF (.bsl 1 [z] [0] 1 true) [a] ob i = some (.im .b [cellsV a], []) := by
  simp [okRow] at h
  obtain ⟨x, hx⟩ := List.length_eq_one_iff.1 h.1
  simp [hx] at h
  simp [opF, fill, hx, okRow, h]
@[go_sem] theorem op_bsl_2 (z a b : V) (ob : OB) (i : Nat) (h : okRow 1 (cellsV a) = true) (k : okRow 1 (cellsV b) = true) : opF (.bsl 1 [z] [0, 1] 2 true) [a, b] ob i = some (.im .b [cellsV a, cellsV b], []) := by
  simp [okRow] at h k
  obtain ⟨x, hx⟩ := List.length_eq_one_iff.1 h.1
  obtain ⟨y, hy⟩ := List.length_eq_one_iff.1 k.1
  simp [hx] at h; simp [hy] at k
  simp [opF, fill, hx, hy, okRow, h, k, List.range_succ]
@[go_sem] theorem op_bsl_3 (z a b c : V) (ob : OB) (i : Nat) (h : okRow 1 (cellsV a) = true) (k : okRow 1 (cellsV b) = true) (m : okRow 1 (cellsV c) = true) : opF (.bsl 1 [z] [0, 1, 2] 3 true) [a, b, c] ob i = some (.im .b [cellsV a, cellsV b, cellsV c], []) := by
  simp [okRow] at h k m
  obtain ⟨x, hx⟩ := List.length_eq_one_iff.1 h.1
  obtain ⟨y, hy⟩ := List.length_eq_one_iff.1 k.1
  obtain ⟨w, hw⟩ := List.length_eq_one_iff.1 m.1
  simp [hx] at h; simp [hy] at k; simp [hw] at m
  simp [opF, fill, hx, hy, hw, okRow, h, k, m, List.range_succ]
@[go_sem] theorem fill_n (l : List V) : fill l [] [] = some l := (rfl)
@[go_sem] theorem fill_c (l : List V) (o n : Nat) (ps : List (Nat × Nat)) (v : V) (vs : List V) : fill l ((o, n) :: ps) (v :: vs) = if (cellsV v).length = n ∧ o + n ≤ l.length ∧ (cellsV v).all leaf then fill (l.take o ++ cellsV v ++ l.drop (o + n)) ps vs else none := (rfl)
@[go_sem] theorem cast0 : ((0 : Nat) : Int) = 0 := (rfl)
@[go_sem] theorem cast1 : ((1 : Nat) : Int) = 1 := (rfl)
@[go_sem] theorem cast2 : ((2 : Nat) : Int) = 2 := (rfl)
@[go_sem] theorem cast3 : ((3 : Nat) : Int) = 3 := (rfl)
@[go_sem] theorem okRow_e (k : Nat) (r : List V) : okRow k r = (r.length == k && r.all leaf) := (rfl)
@[go_sem] theorem leaf_i (k : IntKind) (n : Int) : leaf (.c (.int k n)) = true := (rfl)
@[go_sem] theorem leaf_b (b : Bool) : leaf (.c (.bool b)) = true := (rfl)
@[go_sem] theorem leaf_s (b : ByteArray) : leaf (.c (.string b)) = true := (rfl)
@[go_sem] theorem leaf_z : leaf .z = true := (rfl)
@[go_sem] theorem leaf_im (f : Fl) (l : List (List V)) : leaf (.im f l) = true := (rfl)
@[go_sem] theorem leaf_sl (a b c : Nat) : leaf (.sl a b c) = true := (rfl)
@[go_sem] theorem leaf_fn (f : Nat) (c : List V) : leaf (.fn f c) = true := (rfl)
def resS (ob : OB) (n : Nat) : Option (List (List V)) → V
  | some l => .im .n (l.map fun r => r.map (resV ob n))
  | none => .u
@[go_sem] theorem resS_s (ob : OB) (n : Nat) (l : List (List V)) : resS ob n (some l) = .im .n (l.map fun r => r.map (resV ob n)) := (rfl)
@[go_sem] theorem res_sl (ob : OB) (n id off len : Nat) : resV ob (n + 1) (.sl id off len) = resS ob n (rowsOf ob (.sl id off len)) := by
  simp only [resV]; cases rowsOf ob (.sl id off len) <;> rfl
@[go_sem] theorem take_map_len {α : Type} (g : α → List V) (l : List α) : (l.map g).take l.length = l.map g := by simp [List.take_of_length_le]
theorem out_at {α : Type} (g : α → List V) (hg : ∀ ob' a, (g a).map (gV ob' 6) = g a) {ob : OB} {id len k : Nat} {cap : Option Nat} {l : List α} (hob : ob id = some ⟨k, l.map g, cap⟩) (hlen : len = l.length) (h0 : l.length ≠ 0) (vs : List V) (hvs : ∀ ob', vs.map (gV ob' 6) = vs) :
    outL ob (.sl id 0 len :: vs) = .im .o (l.map g) :: vs := by
  refine out_own (n := id + 1) (k := k) (.inr ⟨fun e => h0 (by simpa using congrArg List.length e), id, cap, by omega, by simp [hlen], hob⟩) (fun ob' => g_map g hg ob' l) vs hvs
@[go_sem] theorem mxS_i (k k' : IntKind) (a b : Int) : mxS (.int k a) (.int k' b) = some (.int k (max a b)) := by simp only [mxS]; congr 2; split <;> omega
@[go_sem] theorem mnS_i (k k' : IntKind) (a b : Int) : mnS (.int k a) (.int k' b) = some (.int k (min a b)) := by simp only [mnS]; congr 2; split <;> omega
attribute [go_sem] decide_true decide_false
attribute [go_sem] List.all_cons List.all_nil Bool.and_true Bool.true_and beq_self_eq_true
attribute [go_sem] Int.toNat_natCast
end Go.Proofs.YtbojpedklnmidaaGreat.D
end
section
set_option linter.unusedVariables false
set_option linter.unusedSimpArgs false
set_option linter.constructorNameAsVariable false
/- An argument of any kind that reads as data has a plain value behind it. No condition. -/
namespace Go.Proofs.YtbojpedklnmidaaGreat.D
open Go Go.RowKit
def gInt (k : IntKind) (x : Int) : Prop := (Lit.int k x).wf = true
def gStr (s : ByteArray) : Prop := s.size ≤ Go.maxLen
def gList {α : Type} (p : α → Prop) (l : List α) : Prop := l.length ≤ Go.maxLen ∧ ∀ x ∈ l, p x
@[reducible] def bkA : Bk := ⟨fun _ => True⟩
abbrev okA (W : World) := @okf bkA (fun _ => none) W.heap.size W.heap.size
abbrev RVa (W : World) := RVs W (okA W) (fun _ => none)
def Opn {H : Type} (enc : TypeId × Value → H) (P : Program) (t : TypeId) {α : Type} (m : α → List V) (good : α → Prop) : Prop :=
  ∀ {W : World} {base : Nat} {sp : Nat → Bool} {held : Bool} {fuel : Nat} {cs : List Value} {x : DataW H × List MemPlace}, DataW.trod enc P W base sp held fuel t cs = some x → ∃ a, RVa W (m a) cs ∧ good a
theorem RVs_one {w : World} {ok : Fl → Nat → Prop} {loc : Loc} {v : V} {x : Value} (h : RV w ok loc v x) : RVs w ok loc [v] [x] :=
  ⟨rfl, fun i v' x' hv hx => by
    cases i with
    | zero => simp at hv hx; subst hv hx; exact h
    | succ i => simp at hv⟩
theorem RVs_nil {w : World} {ok : Fl → Nat → Prop} {loc : Loc} : RVs w ok loc [] [] := ⟨rfl, fun i v x hv => by simp at hv⟩
theorem RVs_app {w : World} {ok : Fl → Nat → Prop} {loc : Loc} {l m : List V} {xs ys : List Value} (h : RVs w ok loc l xs) (k : RVs w ok loc m ys) : RVs w ok loc (l ++ m) (xs ++ ys) := by
  refine ⟨by simp [h.1, k.1], fun i v x hv hx => ?_⟩
  by_cases hi : i < l.length
  · rw [List.getElem?_append_left hi] at hv
    rw [List.getElem?_append_left (by rw [h.1]; exact hi)] at hx
    exact h.2 i v x hv hx
  · rw [List.getElem?_append_right (by omega)] at hv
    rw [List.getElem?_append_right (by rw [h.1]; omega), h.1] at hx
    exact k.2 _ v x hv hx
theorem RVs_cons {w : World} {ok : Fl → Nat → Prop} {loc : Loc} {v : V} {x : Value} {m : List V} {ys : List Value} (h : RV w ok loc v x) (k : RVs w ok loc m ys) : RVs w ok loc (v :: m) (x :: ys) := RVs_app (RVs_one h) k
theorem RVs_head {w : World} {ok : Fl → Nat → Prop} {loc : Loc} {v : V} {x : Value} (h : RVs w ok loc [v] [x]) : RV w ok loc v x := h.2 0 v x rfl rfl
section
variable {H : Type} {enc : TypeId × Value → H} {P : Program} {t e : TypeId}
theorem opn_int {k : IntKind} (hu : P.underlying t = some (.int k)) : Opn enc P t (fun n => [.c (.int k n)]) (gInt k) := by
  intro W base sp held fuel cs x h
  obtain ⟨n, rfl, _, hw⟩ := DataW.trod_int hu h
  exact ⟨n, RVs_one (.c _), hw⟩
theorem opn_string (hu : P.underlying t = some .string) : Opn enc P t (fun n => [.c (.string n)]) gStr := by
  intro W base sp held fuel cs x h
  obtain ⟨n, rfl, _, hw⟩ := DataW.trod_string hu h
  exact ⟨n, RVs_one (.c _), hw⟩
theorem list_of {α : Type} {n : Nat} {p : Nat → α → Prop} (h : ∀ i, i < n → ∃ a, p i a) : ∃ l : List α, l.length = n ∧ ∀ i a, l[i]? = some a → p i a := by
  induction n with
  | zero => exact ⟨[], rfl, fun i a h => by simp at h⟩
  | succ n ih =>
    obtain ⟨l, hl, hp⟩ := ih (fun i hi => h i (by omega))
    obtain ⟨a, ha⟩ := h n (by omega)
    refine ⟨l ++ [a], by simp [hl], fun i b hb => ?_⟩
    by_cases hi : i < n
    · rw [List.getElem?_append_left (by omega)] at hb
      exact hp i b hb
    · have hi2 : i < (l ++ [a]).length := (List.getElem?_eq_some_iff.1 hb).1
      have hi3 : i = n := by simp at hi2; omega
      subst hi3
      rw [List.getElem?_append_right (by omega)] at hb
      simp [hl] at hb
      subst hb
      exact ha
theorem mapM_get {α β : Type} {f : α → Option β} : ∀ {l : List α} {r : List β}, l.mapM f = some r → ∀ (i : Nat) (a : α), l[i]? = some a → f a = r[i]?
  | [], r, h, i, a, ha => by simp at ha
  | x :: l, r, h, i, a, ha => by
    simp only [List.mapM_cons, Option.bind_eq_bind, Option.bind_eq_some_iff, Option.pure_def, Option.some.injEq] at h
    obtain ⟨y, h1, ys, h2, rfl⟩ := h
    cases i with
    | zero => simp at ha; subst ha; simpa using h1
    | succ i => simpa using mapM_get h2 i a (by simpa using ha)
theorem cell_lt {w : World} {a : Addr} {v : Value} (h : w.cell? a = some v) : a.block < w.heap.size ∧ a.spot = none := by
  unfold World.cell? at h
  split at h
  · rename_i c _ _ he
    refine ⟨(Array.getElem?_eq_some_iff.1 he).1, ?_⟩
    cases hs : a.spot with
    | none => rfl
    | some x => rw [hs] at h; simp at h
  · cases h
theorem add_of {a : Addr} (hs : a.spot = none) (n : Nat) : a.add n = ⟨a.block, a.off + n, none⟩ := by
  obtain ⟨b, o, s⟩ := a
  simp at hs; subst hs
  unfold Addr.add
  split
  · rename_i h; subst h; rfl
  · rfl
theorem opn_slice {α : Type} {m : α → List V} {g : α → Prop} {sz : Nat} (hu : P.underlying t = some (.slice e)) (he : Opn enc P e m g) (hs : P.cellsOf e = sz) (h0 : 0 < sz) (hm : ∀ a, (m a).length = sz) :
    Opn enc P t (fun l => [.im .b (l.map m)]) (gList g) := by
  intro W base sp held fuel cs x h
  rcases DataW.trod_slice hu h with ⟨rfl, _⟩ | ⟨a, len, cap, elems, rest, fl, _, rfl, _, _, hl, hc, hel, hi, _, _⟩
  · exact ⟨[], RVs_one (.e _ _ _ (fun h => by cases h)), by simp, by simp⟩
  · have key : ∀ i, i < len → ∃ b : α, (∃ c, RVa W (m b) c ∧ ∀ j u, c[j]? = some u → W.cell? ((a.add (i * sz)).add j) = some u) ∧ g b := by
      intro i hlt
      have h1 := hi i hlt
      rw [List.getElem?_eq_getElem (by omega)] at h1
      obtain ⟨c, hc, htr⟩ := Option.bind_eq_some_iff.1 h1
      obtain ⟨b, hb, hg⟩ := he htr
      rw [hs] at hc
      unfold World.cells? at hc
      split at hc
      · refine ⟨b, ⟨c, hb, fun j u hu => ?_⟩, hg⟩
        have hj : j < sz := by have := (List.getElem?_eq_some_iff.1 hu).1; rw [hb.1, hm] at this; exact this
        have h2 := mapM_get hc j j (by simp [hj])
        rw [hu] at h2
        exact h2
      · cases hc
    obtain ⟨l, hll, hp⟩ := list_of key
    refine ⟨l, RVs_one ?_, by rw [hll]; omega, fun b hb => ?_⟩
    · cases l with
      | nil => simp at hll; subst hll; exact .e _ _ _ (fun h => by cases h)
      | cons b0 l0 =>
        have hl0 : 0 < len := by rw [← hll]; simp
        obtain ⟨⟨c0, hb0, hc0⟩, _⟩ := hp 0 b0 rfl
        have hlen0 : c0.length = sz := by rw [hb0.1, hm]
        have hx := hc0 0 _ (List.getElem?_eq_getElem (by omega))
        simp only [Nat.zero_mul] at hx
        have ha0 : (a.add 0).add 0 = a := rfl
        rw [ha0] at hx
        obtain ⟨hblk, hspot⟩ := cell_lt hx
        have hadd : ∀ i j, (a.add (i * sz)).add j = ⟨a.block, a.off + i * sz + j, none⟩ := fun i j => by
          rw [add_of hspot, add_of rfl]
        have hcell : ∀ i j v, el ((b0 :: l0).map m) i j = some v → ∃ u, W.cell? ⟨a.block, a.off + i * sz + j, none⟩ = some u ∧ RV W (okA W) (fun _ => none) v u := by
          intro i j v hv
          unfold el at hv
          rw [List.getElem?_map] at hv
          cases hb : (b0 :: l0)[i]? with
          | none => rw [hb] at hv; simp at hv
          | some b =>
            rw [hb] at hv
            simp at hv
            obtain ⟨⟨c, hr, hcc⟩, _⟩ := hp i b hb
            have hj : j < c.length := by rw [hr.1]; exact (List.getElem?_eq_some_iff.1 hv).1
            refine ⟨c[j], by rw [← hadd]; exact hcc j _ (List.getElem?_eq_getElem hj), hr.2 j v _ hv (List.getElem?_eq_getElem hj)⟩
        have hae : a = ⟨a.block, a.off, none⟩ := by obtain ⟨_, _, s⟩ := a; simp at hspot; subst hspot; rfl
        rw [hae]
        refine RV.im _ _ sz _ _ _ _ (fun i j => (W.cell? ⟨a.block, a.off + i * sz + j, none⟩).getD (.bool false)) (by rw [← hll]; simp) ?_ hl ⟨rfl, hblk, .inr (.inl ⟨rfl, trivial⟩)⟩ ?_ ?_
        · intro ch hch
          obtain ⟨b, _, rfl⟩ := List.mem_map.1 hch
          exact hm b
        · intro i j v hv
          obtain ⟨u, hu, _⟩ := hcell i j v hv
          simp only [hu, Option.getD_some]
        · intro i j v hv
          obtain ⟨u, hu, hr⟩ := hcell i j v hv
          simp only [hu, Option.getD_some]
          exact hr
    · obtain ⟨i, hi, rfl⟩ := List.getElem_of_mem hb
      exact (hp i _ (List.getElem?_eq_getElem hi)).2
theorem opn_field {α : Type} {m : α → List V} {g : α → Prop} {fs : Array Field} {n sz : Nat} {W : World} {base : Nat} {sp : Nat → Bool} {held : Bool} {cs : List Value} {xs : List (DataW H × List MemPlace)} (hx : xs.length = fs.size)
    (hf : ∀ (i : Nat) (f : Field), fs[i]? = some f → DataW.trod enc P W base sp held n f.type ((cs.drop f.offset).take (P.cellsOf f.type)) = xs[i]?)
    (i : Nat) (f : Field) (hi : fs[i]? = some f) (ho : Opn enc P f.type m g) (hs : P.cellsOf f.type = sz) : ∃ a, RVa W (m a) ((cs.drop f.offset).take sz) ∧ g a := by
  have h := hf i f hi
  have hlt : i < xs.length := by
    rw [hx]
    rcases Nat.lt_or_ge i fs.size with h | h
    · exact h
    · rw [Array.getElem?_eq_none h] at hi
      cases hi
  rw [List.getElem?_eq_getElem hlt, hs] at h
  exact ho h
theorem rv_fields {W : World} {l m : List V} {cs : List Value} {o n : Nat} (h : RVa W l ((cs.drop o).take n)) (k : RVa W m (cs.drop (o + n))) : RVa W (l ++ m) (cs.drop o) := by
  have := RVs_app h k
  rw [← List.drop_drop, List.take_append_drop] at this
  exact this
theorem rv_last {W : World} {l : List V} {cs : List Value} {o n : Nat} (h : RVa W l ((cs.drop o).take n)) (hl : cs.length = o + n) : RVa W l (cs.drop o) := by
  rw [List.take_of_length_le (by simp [hl])] at h
  exact h
theorem arg_one {α : Type} {m : α → V} {g : α → Prop} (ho : Opn enc P t (fun a => [m a]) g) {W : World} {sp : Nat → Bool} {held : Bool} {v : Value} {d : DataW H} {p : List MemPlace} {base : Nat} (hv : v.cells = #[v])
    (h : DataW.Trod enc P W base sp held t v d p) : ∃ a, RV W (okA W) (fun _ => none) (m a) v ∧ g a := by
  obtain ⟨fuel, hf⟩ := h
  rw [hv] at hf
  obtain ⟨a, h1, h2⟩ := ho hf
  exact ⟨a, RVs_head h1, h2⟩
end
theorem res_true {B : Nat → Prop} {w : World} {n : Nat} {x : Value} (h : ResV B w n (vb true) x) : x = .bool true := by
  obtain ⟨_, _, h, _⟩ := h
  obtain ⟨_, h⟩ := h 0 (vb true) x rfl rfl
  cases h; rfl
end Go.Proofs.YtbojpedklnmidaaGreat.D
end
section
set_option linter.unusedVariables false
set_option linter.unusedSimpArgs false
set_option linter.constructorNameAsVariable false
/- Walking over plain values: joins, and functions that share the store. No condition. -/
namespace Go.Proofs.YtbojpedklnmidaaGreat.D
open Go Go.RowKit
section
variable {P : Program}
theorem gd_mono {g : Option (Nat × Bool)} {env : Env} {A B A' B' : Prop} (hA : A → A') (hB : B → B') (h : gd g env A B) : gd g env A' B' := by
  unfold gd at *
  split
  · exact hA h
  · obtain ⟨b, h1, h2, h3⟩ := h
    exact ⟨b, h1, fun e => hA (h2 e), fun e => hB (h3 e)⟩
theorem FnS_mono {f : FuncId} {args : List V} {ob : OB} {nid : Nat} {C C' : V → OB → Nat → Prop} (hC : ∀ r ob' n, C r ob' n → C' r ob' n) (h : FnS P f args ob nid C) : FnS P f args ob nid C' :=
  ⟨h.1, fun B n0 w own loc xs h1 h2 h3 h4 => (h.2 B n0 w own loc xs h1 h2 h3 h4).mono fun e w' ⟨x, r, ob', nid', own', loc', a1, a2, a3, a4, a5, a6⟩ => ⟨x, r, ob', nid', own', loc', a1, a2, a3, a4, a5, hC _ _ _ a6⟩⟩
theorem FnX_mono {f : FuncId} {args : List V} {ob : OB} {nid : Nat} {C C' : V → OB → Nat → Prop} (hC : ∀ r ob' n, C r ob' n → C' r ob' n) (h : FnX P f args ob nid C) : FnX P f args ob nid C' :=
  fun B n0 w own loc xs h1 h2 h3 h4 => let ⟨x, w', r, ob', nid', own', loc', a1, a2, a3, a4, a5, a6⟩ := h B n0 w own loc xs h1 h2 h3 h4; ⟨x, w', r, ob', nid', own', loc', a1, a2, a3, a4, a5, hC _ _ _ a6⟩
theorem stpR_mono {op : Ok} {vs : List V} {ob : OB} {nid : Nat} {C C' : V → OB → Nat → Prop} (hC : ∀ r ob' n, C r ob' n → C' r ob' n) (h : stpR P op vs ob nid C) : stpR P op vs ob nid C' := by
  cases op <;> first
    | exact h.imp (FnS_mono hC) (FnX_mono hC)
    | (obtain ⟨it, id, seen, rows, c, c', a, b, d, e, f⟩ := h; exact ⟨it, id, seen, rows, c, c', a, b, d, fun hh => hC _ _ _ (e hh), fun i kv vv h1 h2 h3 => hC _ _ _ (f i kv vv h1 h2 h3)⟩)
    | (obtain ⟨r, us, h1, h2⟩ := h; exact ⟨r, us, h1, hC _ _ _ h2⟩)
theorem wpS_mono : ∀ {l : List RO} {nid : Nat} {env : Env} {ob : OB} {J J' : Env → OB → Nat → Prop} (hJ : ∀ env ob n, J env ob n → J' env ob n), wpS P l nid env ob J → wpS P l nid env ob J'
  | [], nid, env, ob, J, J', hJ, h => hJ _ _ _ h
  | o :: l, nid, env, ob, J, J', hJ, h => by
    simp only [wpS] at h ⊢
    exact gd_mono (stpR_mono fun r ob' n h => wpS_mono hJ h) (wpS_mono hJ) h
theorem wpD_mono : ∀ {l : List RO} {nid : Nat} {env : Env} {ob : OB} {dl : Ups} {K K' : Env → OB → Prop} (hK : ∀ env ob, K env ob → K' env ob), wpD P l nid env ob dl K → wpD P l nid env ob dl K'
  | [], nid, env, ob, dl, K, K', hK, h => hK _ _ h
  | o :: l, nid, env, ob, dl, K, K', hK, h => by
    simp only [wpD] at h ⊢
    exact gd_mono (fun ⟨r, us, h1, h2⟩ => ⟨r, us, h1, wpD_mono hK h2⟩) (wpD_mono hK) h
theorem wpE_mono : ∀ {l : List RO} {nps : List (List Nat)} {nid : Nat} {env : Env} {ob : OB} {past : List (List Nat × Option (List Nat))} {K K' : Env → OB → Prop} (hK : ∀ env ob, K env ob → K' env ob), wpE P l nps nid env ob past K → wpE P l nps nid env ob past K'
  | [], nps, nid, env, ob, past, K, K', hK, h => hK _ _ h
  | o :: l, nps, nid, env, ob, past, K, K', hK, h => by
    simp only [wpE] at h ⊢
    exact gd_mono (fun ⟨r, us, h1, h2, h3⟩ => ⟨r, us, h1, h2, wpE_mono hK h3⟩) (wpE_mono hK) h
theorem wpC_mono : ∀ {c : IC} {Q Q' : Post} (hQ : ∀ e env ob n, Q e env ob n → Q' e env ob n) {env : Env} {ob : OB} {n : Nat}, wpC P c Q env ob n → wpC P c Q' env ob n := by
  intro c
  induction c with
  | skip => intro Q Q' hQ env ob n h; exact hQ _ _ _ _ h
  | rg l d =>
    intro Q Q' hQ env ob n h
    cases d with
    | false => exact wpS_mono (fun env ob n h => hQ _ _ _ _ h) h
    | true => exact wpD_mono (fun env ob h => hQ _ _ _ _ h) h
  | rb a o b =>
    intro Q Q' hQ env ob n h
    exact wpD_mono (fun env ob h => wpS_mono (fun env ob n h => wpD_mono (fun env ob h => hQ _ _ _ _ h) h) h) h
  | re m np =>
    intro Q Q' hQ env ob n h
    exact wpE_mono (fun env ob h => hQ _ _ _ _ h) h
  | sq a b iha ihb =>
    intro Q Q' hQ env ob n h
    refine iha (fun e env ob n h => ?_) h
    cases e with
    | nrm => exact ihb hQ h
    | ex i => exact hQ _ _ _ _ h
    | rt => exact hQ _ _ _ _ h
  | cn c a b iha ihb =>
    intro Q Q' hQ env ob n h
    simp only [wpC, cnd] at h ⊢
    split
    · rename_i t heq; rw [heq] at h; exact ⟨fun e => iha hQ (h.1 e), fun e => ihb hQ (h.2 e)⟩
    · rename_i heq; rw [heq] at h; exact ⟨iha hQ h.1, ihb hQ h.2⟩
    · rename_i h1 h2
      split at h
      · rename_i t heq; exact h1 t heq
      · rename_i heq; exact h2 heq
      · exact h
  | bl i a ih =>
    intro Q Q' hQ env ob n h
    refine ih (fun e env ob n h => ?_) h
    cases e with
    | ex j => simp only [blQ] at h ⊢; split <;> rename_i hj <;> simp only [hj, if_true, if_false] at h <;> exact hQ _ _ _ _ h
    | nrm => exact hQ _ _ _ _ h
    | rt => exact hQ _ _ _ _ h
  | lp a ih =>
    intro Q Q' hQ env ob n h
    obtain ⟨I, μ, h0, h1⟩ := h
    refine ⟨I, μ, h0, fun env ob n hI => ih (fun e env ob n h => ?_) (h1 env ob n hI)⟩
    cases e with
    | nrm => exact h
    | ex j => exact hQ _ _ _ _ h
    | rt => exact hQ _ _ _ _ h
  | ex i => intro Q Q' hQ env ob n h; exact hQ _ _ _ _ h
  | rt => intro Q Q' hQ env ob n h; exact hQ _ _ _ _ h
theorem cut_C {A B : IC} {Q : Post} {env : Env} {ob : OB} {n : Nat} (I : Env → OB → Nat → Prop) (h1 : wpC P A (thenQ I Q) env ob n) (h2 : ∀ env ob n, I env ob n → wpC P B Q env ob n) : wpC P A (thenQ (wpC P B Q) Q) env ob n := by
  refine wpC_mono (fun e env ob n h => ?_) h1
  cases e with
  | nrm => exact h2 _ _ _ h
  | ex i => exact h
  | rt => exact h
theorem cut_S {A B : IC} {Q R : Post} {l : List RO} {env : Env} {ob : OB} {n : Nat} (I : Env → OB → Nat → Prop) (h1 : wpS P l n env ob (kS (thenQ (wpC P A (thenQ I Q)) R))) (h2 : ∀ env ob n, I env ob n → wpC P B Q env ob n) : wpS P l n env ob (kS (thenQ (wpC P (.sq A B) Q) R)) :=
  wpS_mono (fun env ob n h => cut_C I h h2) h1
theorem cut_ca {A B : IC} {Q R : Post} {l : List RO} {f : Nat} {vs : List V} {m : Md} {d : Option Nat} {env : Env} {ob : OB} {n : Nat} (I : Env → OB → Nat → Prop) (h1 : caS P f vs m d l n env ob (kS (thenQ (wpC P A (thenQ I Q)) R))) (h2 : ∀ env ob n, I env ob n → wpC P B Q env ob n) : caS P f vs m d l n env ob (kS (thenQ (wpC P (.sq A B) Q) R)) := by
  obtain ⟨q, a1, a2, a3⟩ := h1
  exact ⟨q, a1, a2, cut_S I a3 h2⟩
theorem rcS_i {f : Nat} {vs : List V} {d : Option Nat} {l : List RO} {n : Nat} {env : Env} {ob : OB} {J : Env → OB → Nat → Prop} (h : FnS P f vs ob n fun r ob' n' => wpS P l n' (put env d r) ob' J) : rcS P f vs d l n env ob J := .inl h
theorem nxt_i {it id : Nat} {seen : List Nat} {rows : List (List V)} {cap cap' : Option Nat} {d : Option Nat} {l : List RO} {n : Nat} {env : Env} {ob : OB} {J : Env → OB → Nat → Prop} (hI : ob it = some ⟨0, itRows id rows.length seen, cap⟩) (hM : ob id = some ⟨0, rows, cap'⟩)
    (h1 : (∀ i, i < rows.length → i ∈ seen) → wpS P l n (put env d (.tp [.c (.bool false)])) ob J)
    (h2 : ∀ i kv vv, i < rows.length → i ∉ seen → rows[i]? = some [kv, vv] → wpS P l n (put env d (.tp [.c (.bool true), kv, vv])) (updO ob it (some ⟨0, itRows id rows.length (seen ++ [i]), none⟩)) J) : nxtS P [.mi it] d l n env ob J :=
  ⟨it, id, seen, rows, cap, cap', rfl, hI, hM, h1, fun i kv vv a b c => h2 i kv vv a b c⟩
theorem ent_i {it id i : Nat} {seen : List Nat} {rows : List (List V)} {cap cap' : Option Nat} {kv vv : V} {ob : OB} {nid : Nat} (hI : ob it = some ⟨0, itRows id rows.length (seen ++ [i]), cap⟩) (hM : ob id = some ⟨0, rows, cap'⟩) (h : rows[i]? = some [kv, vv]) :
    opF .ent [.mi it] ob nid = some (.tp [kv, vv], []) := by
  simp [opF, hI, entV, hM, h]
end
section
variable {P : Program}
def Less (ob'' ob' : OB) : Prop := ∀ id o, ob'' id = some o → ∃ o', ob' id = some o' ∧ o.k = o'.k ∧ (∃ m, o.l = o'.l.take m) ∧ (∀ c, o.cap = some c → o'.cap = some c) ∧ (o.k = 0 → o = o')
end
end Go.Proofs.YtbojpedklnmidaaGreat.D
end
section
set_option linter.unusedVariables false
set_option maxRecDepth 100000
set_option linter.constructorNameAsVariable false
/- The functions, told over by a program of this session; Lean checks that they are the program's own. No condition. -/
namespace Go.Proofs.YtbojpedklnmidaaGreat.D
open Go Go.Proofs
def jM (d t : Nat) : RO := ⟨some d, none, .mv, [.t t]⟩
def jG (d g : Nat) (b : Bool) (t : Nat) : RO := ⟨some d, some (g, b), .mv, [.t t]⟩
def jO (d : Nat) (op : Ok) (xs : List Od) : RO := ⟨some d, none, op, xs⟩
def jP (d g : Nat) (b : Bool) (op : Ok) (xs : List Od) : RO := ⟨some d, some (g, b), op, xs⟩
def jV (n : Int) : V := .c (.int .i64 n)
def jN : V := .c (.int .i64 0)
def jZ : List V := [.c (.int .i64 0), .c (.int .i64 0), .z, .c (.int .i64 0), .c (.int .i64 0), .c (.int .i64 0), .c (.int .i64 0), .c (.int .i64 0), .c (.string ⟨#[]⟩), .c (.int .i64 0), .z, .z]
@[go_sem] theorem jM_e (d t : Nat) : jM d t = ⟨some d, none, .mv, [.t t]⟩ := (rfl)
@[go_sem] theorem jG_e (d g : Nat) (b : Bool) (t : Nat) : jG d g b t = ⟨some d, some (g, b), .mv, [.t t]⟩ := (rfl)
@[go_sem] theorem jO_e (d : Nat) (op : Ok) (xs : List Od) : jO d op xs = ⟨some d, none, op, xs⟩ := (rfl)
@[go_sem] theorem jP_e (d g : Nat) (b : Bool) (op : Ok) (xs : List Od) : jP d g b op xs = ⟨some d, some (g, b), op, xs⟩ := (rfl)
@[go_sem] theorem jV_e (n : Int) : jV n = .c (.int .i64 n) := (rfl)
@[go_sem] theorem jN_e : jN = .c (.int .i64 0) := (rfl)
@[go_sem] theorem jZ_e : jZ = [.c (.int .i64 0), .c (.int .i64 0), .z, .c (.int .i64 0), .c (.int .i64 0), .c (.int .i64 0), .c (.int .i64 0), .c (.int .i64 0), .c (.string ⟨#[]⟩), .c (.int .i64 0), .z, .z] := (rfl)
attribute [go_sem] iv_c Nat.le_refl true_or or_true and_self Int.natCast_nonneg
def c3 : IC := .sq (.rg [jO 6 .mv [.k (.c (.bool false))]] false) (.sq (.sq (.rg [jM 20 1, jO 21 (.call 5 .fz) [.t 20], jM 22 21, jG 23 22 false 2, jP 24 22 false (.call 6 .fz) [.t 23], jO 25 .pick [.t 22, .k (.c (.bool true)), .t 24], jM 26 25, jG 27 26 false 2, jP 28 26 false .len [.t 27], jP 29 26 false (.bin .gtr) [.t 28, .k (jV 40)], jO 30 .pick [.t 26, .k (.c (.bool true)), .t 29], jM 31 30, jG 32 31 false 0, jP 33 31 false (.bin .lss) [.t 32, .k (jV 1)], jO 34 .pick [.t 31, .k (.c (.bool true)), .t 33], jM 35 34, jG 36 35 false 0, jP 37 35 false (.bin .gtr) [.t 36, .k (jV 5)], jO 38 .pick [.t 35, .k (.c (.bool true)), .t 37], jM 39 38, jG 40 39 false 1, jP 41 39 false (.call 7 .fz) [.t 40], jP 42 39 false (.bin .neq) [.t 41, .k jN], jO 43 .pick [.t 39, .k (.c (.bool true)), .t 42]] false) (.cn (.t 43) (.sq (.rg [jO 6 .mv [.k (.c (.bool true))]] false) (.rt)) (.skip))) (.sq (.rg [jM 44 0, jO 45 (.mks 1 [jN] false) [.t 44, .t 44], jM 7 45] false) (.sq (.rg [jM 46 1, jO 47 .len [.t 46], jO 48 (.mks 1 [.z] false) [.t 47, .t 47], jM 8 48] false) (.sq (.sq (.rg [jO 9 .mv [.k jN]] false) (.bl 0 (.lp (.sq (.sq (.rg [jM 49 9, jM 50 2, jO 51 .len [.t 50], jO 52 (.bin .lss) [.t 49, .t 51]] false) (.cn (.t 52) (.skip) (.ex 0))) (.sq (.bl 1 (.sq (.sq (.rg [jM 55 0, jM 56 1, jM 57 2, jM 58 9, jO 59 (.ia 12) [.t 57, .t 58], jO 60 (.ld (some 12)) [.t 59], jO 61 (.call 8 .fz) [.t 55, .t 56, .t 60], jO 62 (.bin .neq) [.t 61, .k jN], jM 63 62, jG 64 63 false 7, jG 65 63 false 2, jG 66 63 false 9, jP 67 63 false (.ia 12) [.t 65, .t 66], jP 68 63 false (.fa 0) [.t 67], jP 69 63 false (.ld (some 2)) [.t 68], jP 70 63 false (.call 9 .fz) [.t 64, .t 69], jP 71 63 false (.un .not) [.t 70], jO 72 .pick [.t 63, .k (.c (.bool true)), .t 71], jM 73 72, jG 74 73 false 2, jG 75 73 false 9, jP 76 73 false (.ia 12) [.t 74, .t 75], jP 77 73 false (.fa 2) [.t 76], jP 78 73 false (.ld none) [.t 77], jG 79 73 false 7, jP 80 73 false (.call 10 .fz) [.t 78, .t 79], jP 81 73 false (.un .not) [.t 80], jO 82 .pick [.t 73, .k (.c (.bool true)), .t 81]] false) (.cn (.t 82) (.sq (.rg [jO 6 .mv [.k (.c (.bool true))]] false) (.rt)) (.skip))) (.sq (.sq (.rg [jO 10 .mv [.k jN]] false) (.bl 2 (.lp (.sq (.sq (.rg [jM 83 10, jM 84 9, jO 85 (.bin .lss) [.t 83, .t 84]] false) (.cn (.t 85) (.skip) (.ex 2))) (.sq (.bl 3 (.sq (.rg [jM 88 2, jM 89 9, jO 90 (.ia 12) [.t 88, .t 89], jO 91 (.fa 3) [.t 90], jO 92 (.ld (some 3)) [.t 91], jM 93 2, jM 94 10, jO 95 (.ia 12) [.t 93, .t 94], jO 96 (.fa 3) [.t 95], jO 97 (.ld (some 3)) [.t 96], jO 98 (.call 11 .fz) [.t 92, .t 97], jO 99 (.bin .eql) [.t 98, .k jN]] true) (.cn (.t 99) (.sq (.rg [jO 6 .mv [.k (.c (.bool true))]] false) (.rt)) (.skip)))) (.rg [jM 86 10, jO 87 (.bin .add) [.t 86, .k (jV 1)], jM 10 87] false)))))) (.sq (.rg [jM 101 1, jM 102 2, jM 103 9, jO 104 (.ia 12) [.t 102, .t 103], jO 105 (.fa 7) [.t 104], jO 106 (.ld none) [.t 105], jO 107 (.ia 1) [.t 101, .t 106], jO 108 (.ld (some 1)) [.t 107], jM 109 8, jM 110 2, jM 111 9, jO 112 (.ia 12) [.t 110, .t 111], jO 113 (.fa 7) [.t 112], jO 114 (.ld none) [.t 113], jO 115 (.ia 1) [.t 109, .t 114], jO 116 (.ld none) [.t 115], jM 117 2, jM 118 9, jO 119 (.ia 12) [.t 117, .t 118], jO 120 (.ld (some 12)) [.t 119], jO 121 (.call 12 .fz) [.t 108, .t 116, .t 120], jM 100 121, jO 122 (.ext 0) [.t 100], jO 123 (.ext 1) [.t 100], jO 124 (.ext 2) [.t 100], jO 125 (.ext 3) [.t 100], jM 11 122, jM 12 123, jM 13 124, jM 14 125] true) (.sq (.sq (.rg [jM 126 14, jO 127 (.bin .neq) [.t 126, .k jN]] false) (.cn (.t 127) (.sq (.rg [jO 6 .mv [.k (.c (.bool false))]] false) (.rt)) (.skip))) (.rg [jM 128 8, jM 129 2, jM 130 9, jO 131 (.ia 12) [.t 129, .t 130], jO 132 (.fa 7) [.t 131], jO 133 (.ld none) [.t 132], jM 134 7, jM 135 2, jM 136 9, jO 137 (.ia 12) [.t 135, .t 136], jO 138 (.fa 0) [.t 137], jO 139 (.fa 0) [.t 138], jO 140 (.ld none) [.t 139], jM 141 11, jM 142 2, jM 143 9, jO 144 (.ia 12) [.t 142, .t 143], jO 145 (.fa 0) [.t 144], jO 146 (.fa 1) [.t 145], jO 147 (.ld none) [.t 146], jO 148 (.ia 1) [.t 128, .t 133], ⟨none, none, (.st 1), [.t 148, .t 141]⟩, jO 149 (.ia 1) [.t 134, .t 140], ⟨none, none, (.st 1), [.t 149, .t 147]⟩] true)))))) (.rg [jM 53 9, jO 54 (.bin .add) [.t 53, .k (jV 1)], jM 9 54] false)))))) (.sq (.rg [jM 151 0, jM 152 1, jM 153 2, jO 154 (.call 13 .fz) [.t 151, .t 152, .t 153], jM 150 154, jO 155 (.ext 0) [.t 150], jO 156 (.ext 1) [.t 150], jM 15 155, jM 16 156] false) (.sq (.rg [jM 158 0, jM 159 2, jO 160 (.call 14 .fz) [.t 158, .t 159], jM 157 160, jO 161 (.ext 0) [.t 157], jO 162 (.ext 1) [.t 157], jM 17 161, jM 18 162] false) (.sq (.sq (.rg [jM 163 16, jO 164 (.bin .neq) [.t 163, .k jN], jM 165 164, jG 166 165 false 18, jP 167 165 false (.bin .neq) [.t 166, .k jN], jO 168 .pick [.t 165, .k (.c (.bool true)), .t 167], jM 169 168, jG 170 169 false 15, jP 171 169 false .len [.t 170], jG 172 169 false 1, jP 173 169 false .len [.t 172], jP 174 169 false (.bin .neq) [.t 171, .t 173], jO 175 .pick [.t 169, .k (.c (.bool true)), .t 174], jM 176 175, jG 177 176 false 17, jG 178 176 false 7, jP 179 176 false (.call 15 .fz) [.t 177, .t 178], jP 180 176 false (.un .not) [.t 179], jO 181 .pick [.t 176, .k (.c (.bool true)), .t 180], jM 182 181, jG 183 182 false 0, jG 184 182 false 2, jP 185 182 false (.call 16 .fz) [.t 183, .t 184], jP 186 182 false (.un .not) [.t 185], jO 187 .pick [.t 182, .k (.c (.bool true)), .t 186]] false) (.cn (.t 187) (.sq (.rg [jO 6 .mv [.k (.c (.bool false))]] false) (.rt)) (.skip))) (.sq (.sq (.rg [jO 19 .mv [.k jN]] false) (.bl 4 (.lp (.sq (.sq (.rg [jM 188 19, jM 189 1, jO 190 .len [.t 189], jO 191 (.bin .lss) [.t 188, .t 190]] false) (.cn (.t 191) (.skip) (.ex 4))) (.sq (.bl 5 (.sq (.rg [jM 194 15, jM 195 19, jO 196 (.ia 1) [.t 194, .t 195], jO 197 (.ld none) [.t 196], jM 198 1, jM 199 19, jO 200 (.ia 1) [.t 198, .t 199], jO 201 (.ld (some 1)) [.t 200], jM 202 8, jM 203 19, jO 204 (.ia 1) [.t 202, .t 203], jO 205 (.ld none) [.t 204], jO 206 (.call 18 .fz) [.t 201, .t 205], jO 207 (.call 17 .fz) [.t 197, .t 206], jO 208 (.un .not) [.t 207]] true) (.cn (.t 208) (.sq (.rg [jO 6 .mv [.k (.c (.bool false))]] false) (.rt)) (.skip)))) (.rg [jM 192 19, jO 193 (.bin .add) [.t 192, .k (jV 1)], jM 19 193] false)))))) (.sq (.rg [jM 209 2, jM 210 7, jO 211 (.call 20 .fz) [.t 209, .t 210], jM 212 2, jO 213 (.call 19 .fz) [.t 211, .t 212], jM 214 213, jP 215 214 true (.call 21 .fz) [], jO 216 .pick [.t 214, .t 215, .k (.c (.bool false))], jM 6 216] false) (.rt))))))))))
def c4 : IC := .sq (.rg [jO 8 .mv [.k (.c (.bool false))]] false) (.sq (.sq (.rg [jM 23 1, jO 24 (.call 5 .fz) [.t 23], jM 25 24, jG 26 25 false 2, jP 27 25 false (.call 6 .fz) [.t 26], jO 28 .pick [.t 25, .k (.c (.bool true)), .t 27], jM 29 28, jG 30 29 false 2, jP 31 29 false .len [.t 30], jP 32 29 false (.bin .gtr) [.t 31, .k (jV 40)], jO 33 .pick [.t 29, .k (.c (.bool true)), .t 32], jM 34 33, jG 35 34 false 3, jP 36 34 false .len [.t 35], jP 37 34 false (.bin .gtr) [.t 36, .k (jV 30)], jO 38 .pick [.t 34, .k (.c (.bool true)), .t 37]] false) (.cn (.t 38) (.sq (.rg [jO 8 .mv [.k (.c (.bool true))]] false) (.rt)) (.skip))) (.sq (.rg [jM 39 2, jO 40 (.call 22 .fz) [.t 39], jM 41 1, jO 42 (.call 23 .fz) [.t 41], jM 9 40, jM 10 42] false) (.sq (.rg [jM 44 0, jM 45 10, jM 46 9, jO 47 (.call 13 .fz) [.t 44, .t 45, .t 46], jM 43 47, jO 48 (.ext 0) [.t 43], jO 49 (.ext 1) [.t 43], jM 11 48, jM 12 49] false) (.sq (.rg [jM 51 0, jM 52 9, jO 53 (.call 14 .fz) [.t 51, .t 52], jM 50 53, jO 54 (.ext 0) [.t 50], jO 55 (.ext 1) [.t 50], jM 13 54, jM 14 55] false) (.sq (.rg [jM 56 0, jM 57 9, jO 58 (.call 16 .fz) [.t 56, .t 57], jM 59 9, jM 60 3, jO 61 (.rcall 20) [.t 59, .t 60], jM 15 58, jM 16 61] false) (.sq (.sq (.rg [jM 62 9, jM 63 2, jO 64 (.call 19 .fz) [.t 62, .t 63], jO 65 (.un .not) [.t 64], jM 66 65, jG 67 66 false 10, jG 68 66 false 1, jP 69 66 false (.call 24 .fz) [.t 67, .t 68], jP 70 66 false (.un .not) [.t 69], jO 71 .pick [.t 66, .k (.c (.bool true)), .t 70], jM 72 71, jG 73 72 false 15, jG 74 72 false 0, jG 75 72 false 2, jP 76 72 false (.call 25 .fz) [.t 74, .t 75], jP 77 72 false (.bb .neq) [.t 73, .t 76], jO 78 .pick [.t 72, .k (.c (.bool true)), .t 77], jM 79 78, jG 80 79 false 16, jG 81 79 false 2, jG 82 79 false 3, jP 83 79 false (.call 26 .fz) [.t 81, .t 82], jP 84 79 false (.call 19 .fz) [.t 80, .t 83], jP 85 79 false (.un .not) [.t 84], jO 86 .pick [.t 79, .k (.c (.bool true)), .t 85]] false) (.cn (.t 86) (.sq (.rg [jO 8 .mv [.k (.c (.bool false))]] false) (.rt)) (.skip))) (.sq (.rg [jM 87 16, jO 88 (.rcall 27) [.t 87]] false) (.sq (.rg [jM 89 1, jO 90 (.call 7 .fz) [.t 89], jM 17 90] false) (.sq (.sq (.rg [jM 91 17, jO 92 (.bin .eql) [.t 91, .k jN], jM 93 92, jG 94 93 true 0, jP 95 93 true (.bin .lss) [.t 94, .k (jV 1)], jG 96 93 true 95, jG 97 96 false 0, jP 98 96 false (.bin .gtr) [.t 97, .k (jV 5)], jP 99 93 true .pick [.t 96, .k (.c (.bool true)), .t 98], jO 100 .pick [.t 93, .t 99, .k (.c (.bool false))]] false) (.cn (.t 100) (.rg [jO 17 .mv [.k (jV 1)]] false) (.skip))) (.sq (.sq (.rg [jO 18 .mv [.k jN]] false) (.bl 0 (.lp (.sq (.sq (.rg [jM 101 18, jM 102 2, jO 103 .len [.t 102], jO 104 (.bin .lss) [.t 101, .t 103], jM 105 104, jG 106 105 true 17, jP 107 105 true (.bin .eql) [.t 106, .k jN], jO 108 .pick [.t 105, .t 107, .k (.c (.bool false))]] false) (.cn (.t 108) (.skip) (.ex 0))) (.sq (.bl 1 (.rg [jM 111 0, jM 112 1, jM 113 2, jM 114 18, jO 115 (.ia 12) [.t 113, .t 114], jO 116 (.ld (some 12)) [.t 115], jO 117 (.call 8 .fz) [.t 111, .t 112, .t 116], jM 17 117] false)) (.rg [jM 109 18, jO 110 (.bin .add) [.t 109, .k (jV 1)], jM 18 110] false)))))) (.sq (.sq (.rg [jM 118 12, jM 119 17, jO 120 (.bin .neq) [.t 118, .t 119], jM 121 120, jG 122 121 false 17, jP 123 121 false (.bin .neq) [.t 122, .k jN], jG 124 121 false 123, jG 125 124 true 11, jP 126 124 true .len [.t 125], jP 127 124 true (.bin .gtr) [.t 126, .k jN], jP 128 121 false .pick [.t 124, .t 127, .k (.c (.bool false))], jO 129 .pick [.t 121, .k (.c (.bool true)), .t 128], jM 130 129, jG 131 130 false 17, jP 132 130 false (.bin .eql) [.t 131, .k jN], jG 133 130 false 132, jG 134 133 true 11, jG 135 133 true 1, jG 136 133 true 2, jP 137 133 true (.call 29 .fz) [.t 135, .t 136], jP 138 133 true (.call 28 .fz) [.t 134, .t 137], jP 139 133 true (.un .not) [.t 138], jP 140 130 false .pick [.t 133, .t 139, .k (.c (.bool false))], jO 141 .pick [.t 130, .k (.c (.bool true)), .t 140]] false) (.cn (.t 141) (.sq (.rg [jO 8 .mv [.k (.c (.bool false))]] false) (.rt)) (.skip))) (.sq (.rg [jM 142 0, jO 143 (.bin .geq) [.t 142, .k (jV 1)], jM 144 143, jG 145 144 true 0, jP 146 144 true (.bin .leq) [.t 145, .k (jV 5)], jO 147 .pick [.t 144, .t 146, .k (.c (.bool false))], jM 19 147] false) (.sq (.rg [jM 148 0, jO 149 .mn [.t 148, .k (jV 5)], jO 150 .mx [.k jN, .t 149], jO 151 (.mks 1 [jN] false) [.t 150, .t 150], jM 20 151] false) (.sq (.sq (.rg [jO 21 .mv [.k jN]] false) (.bl 2 (.lp (.sq (.sq (.rg [jM 152 21, jM 153 2, jO 154 .len [.t 153], jO 155 (.bin .lss) [.t 152, .t 154], jM 156 155, jG 157 156 true 19, jO 158 .pick [.t 156, .t 157, .k (.c (.bool false))]] false) (.cn (.t 158) (.skip) (.ex 2))) (.sq (.bl 3 (.sq (.rg [jM 161 2, jM 162 21, jO 163 (.ia 12) [.t 161, .t 162], jO 164 (.fa 0) [.t 163], jO 165 (.ld (some 2)) [.t 164], jO 22 (.alloc [jN, jN]) [], ⟨none, none, (.st 2), [.t 22, .t 165]⟩] false) (.sq (.rg [jO 166 (.fa 0) [.t 22], jO 167 (.ld none) [.t 166], jO 168 (.bin .geq) [.t 167, .k jN], jM 169 168, jP 170 169 true (.fa 0) [.t 22], jP 171 169 true (.ld none) [.t 170], jG 172 169 true 0, jP 173 169 true (.bin .lss) [.t 171, .t 172], jO 174 .pick [.t 169, .t 173, .k (.c (.bool false))], jM 175 174, jP 176 175 true (.fa 1) [.t 22], jP 177 175 true (.ld none) [.t 176], jP 178 175 true (.bin .geq) [.t 177, .k (jV 1)], jO 179 .pick [.t 175, .t 178, .k (.c (.bool false))], jM 180 179, jP 181 180 true (.fa 1) [.t 22], jP 182 180 true (.ld none) [.t 181], jP 183 180 true (.bin .leq) [.t 182, .k (jV 1073741824)], jO 184 .pick [.t 180, .t 183, .k (.c (.bool false))], jM 19 184] false) (.sq (.rg [jM 185 19] false) (.cn (.t 185) (.rg [jM 186 20, jO 187 (.fa 0) [.t 22], jO 188 (.ld none) [.t 187], jM 189 20, jO 190 (.fa 0) [.t 22], jO 191 (.ld none) [.t 190], jO 192 (.ia 1) [.t 189, .t 191], jO 193 (.ld none) [.t 192], jO 194 (.fa 1) [.t 22], jO 195 (.ld none) [.t 194], jO 196 .mx [.t 193, .t 195], jO 197 (.ia 1) [.t 186, .t 188], ⟨none, none, (.st 1), [.t 197, .t 196]⟩] true) (.skip)))))) (.rg [jM 159 21, jO 160 (.bin .add) [.t 159, .k (jV 1)], jM 21 160] false)))))) (.sq (.sq (.rg [jM 198 19, jO 199 (.un .not) [.t 198]] false) (.cn (.t 199) (.sq (.rg [jM 200 14, jO 201 (.bin .eql) [.t 200, .k (jV 1)], jM 202 201, jG 203 202 true 13, jP 204 202 true .len [.t 203], jP 205 202 true (.bin .eql) [.t 204, .k jN], jO 206 .pick [.t 202, .t 205, .k (.c (.bool false))], jM 207 206, jG 208 207 true 9, jG 209 207 true 2, jP 210 207 true (.call 19 .fz) [.t 208, .t 209], jO 211 .pick [.t 207, .t 210, .k (.c (.bool false))], jM 212 211, jP 213 212 true (.call 21 .fz) [], jO 214 .pick [.t 212, .t 213, .k (.c (.bool false))], jM 8 214] false) (.rt)) (.skip))) (.sq (.rg [jM 215 14, jO 216 (.bin .eql) [.t 215, .k jN], jM 217 216, jG 218 217 true 13, jG 219 217 true 20, jP 220 217 true (.call 15 .fz) [.t 218, .t 219], jO 221 .pick [.t 217, .t 220, .k (.c (.bool false))], jM 222 221, jG 223 222 true 9, jG 224 222 true 2, jP 225 222 true (.call 19 .fz) [.t 223, .t 224], jO 226 .pick [.t 222, .t 225, .k (.c (.bool false))], jM 227 226, jP 228 227 true (.call 21 .fz) [], jO 229 .pick [.t 227, .t 228, .k (.c (.bool false))], jM 8 229] false) (.rt)))))))))))))))))
theorem cf4 : compF Tryz.prog 4 c4 = some ⟨c4, [.t 8], 230⟩ := by kernel_rfl
def c5 : IC := .sq (.rg [jO 2 .mv [.k (.c (.bool false))]] false) (.sq (.sq (.rg [jM 4 0, jO 5 .len [.t 4], jO 6 (.bin .gtr) [.t 5, .k (jV 30)]] false) (.cn (.t 6) (.sq (.rg [jO 2 .mv [.k (.c (.bool true))]] false) (.rt)) (.skip))) (.sq (.sq (.rg [jO 3 .mv [.k jN]] false) (.bl 0 (.lp (.sq (.sq (.rg [jM 7 3, jM 8 0, jO 9 .len [.t 8], jO 10 (.bin .lss) [.t 7, .t 9]] false) (.cn (.t 10) (.skip) (.ex 0))) (.sq (.bl 1 (.sq (.rg [jM 13 0, jM 14 3, jO 15 (.ia 1) [.t 13, .t 14], jO 16 (.fa 0) [.t 15], jO 17 (.ld none) [.t 16], jO 18 .len [.t 17], jO 19 (.bin .gtr) [.t 18, .k (jV 30)]] false) (.cn (.t 19) (.sq (.rg [jO 2 .mv [.k (.c (.bool true))]] false) (.rt)) (.skip)))) (.rg [jM 11 3, jO 12 (.bin .add) [.t 11, .k (jV 1)], jM 3 12] false)))))) (.sq (.rg [jO 2 .mv [.k (.c (.bool false))]] false) (.rt))))
theorem cf5 : compF Tryz.prog 5 c5 = some ⟨c5, [.t 2], 20⟩ := by kernel_rfl
def c6 : IC := .sq (.rg [jO 2 .mv [.k (.c (.bool false))]] false) (.sq (.sq (.rg [jM 4 0, jO 5 .len [.t 4], jO 6 (.bin .gtr) [.t 5, .k (jV 300)]] false) (.cn (.t 6) (.sq (.rg [jO 2 .mv [.k (.c (.bool true))]] false) (.rt)) (.skip))) (.sq (.sq (.rg [jO 3 .mv [.k jN]] false) (.bl 0 (.lp (.sq (.sq (.rg [jM 7 3, jM 8 0, jO 9 .len [.t 8], jO 10 (.bin .lss) [.t 7, .t 9]] false) (.cn (.t 10) (.skip) (.ex 0))) (.sq (.bl 1 (.sq (.rg [jM 13 0, jM 14 3, jO 15 (.ia 12) [.t 13, .t 14], jO 16 (.fa 2) [.t 15], jO 17 (.ld none) [.t 16], jO 18 .len [.t 17], jO 19 (.bin .gtr) [.t 18, .k (jV 30)], jM 20 19, jG 21 20 false 0, jG 22 20 false 3, jP 23 20 false (.ia 12) [.t 21, .t 22], jP 24 20 false (.fa 8) [.t 23], jP 25 20 false (.ld none) [.t 24], jP 26 20 false .slen [.t 25], jP 27 20 false (.bin .gtr) [.t 26, .k (jV 100)], jO 28 .pick [.t 20, .k (.c (.bool true)), .t 27], jM 29 28, jG 30 29 false 0, jG 31 29 false 3, jP 32 29 false (.ia 12) [.t 30, .t 31], jP 33 29 false (.fa 10) [.t 32], jP 34 29 false (.ld none) [.t 33], jP 35 29 false (.call 30 .fz) [.t 34], jO 36 .pick [.t 29, .k (.c (.bool true)), .t 35], jM 37 36, jG 38 37 false 0, jG 39 37 false 3, jP 40 37 false (.ia 12) [.t 38, .t 39], jP 41 37 false (.fa 11) [.t 40], jP 42 37 false (.ld none) [.t 41], jP 43 37 false .len [.t 42], jP 44 37 false (.bin .gtr) [.t 43, .k (jV 100)], jO 45 .pick [.t 37, .k (.c (.bool true)), .t 44]] false) (.cn (.t 45) (.sq (.rg [jO 2 .mv [.k (.c (.bool true))]] false) (.rt)) (.skip)))) (.rg [jM 11 3, jO 12 (.bin .add) [.t 11, .k (jV 1)], jM 3 12] false)))))) (.sq (.rg [jO 2 .mv [.k (.c (.bool false))]] false) (.rt))))
theorem cf6 : compF Tryz.prog 6 c6 = some ⟨c6, [.t 2], 46⟩ := by kernel_rfl
def c7 : IC := .sq (.rg [jO 2 .mv [.k jN]] false) (.sq (.sq (.rg [jM 6 0, jO 7 .len [.t 6], jO 8 (.call 31 .fz) [.t 7, .k (jV 1), .k (jV 3)], jO 9 (.un .not) [.t 8]] false) (.cn (.t 9) (.sq (.rg [jO 2 .mv [.k (jV 2)]] false) (.rt)) (.skip))) (.sq (.sq (.rg [jO 3 .mv [.k jN]] false) (.bl 0 (.lp (.sq (.sq (.rg [jM 10 3, jM 11 0, jO 12 .len [.t 11], jO 13 (.bin .lss) [.t 10, .t 12]] false) (.cn (.t 13) (.skip) (.ex 0))) (.sq (.bl 1 (.sq (.rg [jM 16 0, jM 17 3, jO 18 (.ia 1) [.t 16, .t 17], jO 19 (.fa 0) [.t 18], jO 20 (.ld none) [.t 19], jO 21 .len [.t 20], jO 22 (.call 31 .fz) [.t 21, .k (jV 1), .k (jV 4)], jO 23 (.un .not) [.t 22]] false) (.cn (.t 23) (.sq (.rg [jO 2 .mv [.k (jV 2)]] false) (.rt)) (.skip)))) (.rg [jM 14 3, jO 15 (.bin .add) [.t 14, .k (jV 1)], jM 3 15] false)))))) (.sq (.sq (.rg [jO 4 .mv [.k jN]] false) (.bl 2 (.lp (.sq (.sq (.rg [jM 24 4, jM 25 0, jO 26 .len [.t 25], jO 27 (.bin .lss) [.t 24, .t 26]] false) (.cn (.t 27) (.skip) (.ex 2))) (.sq (.bl 3 (.sq (.rg [jO 5 .mv [.k jN]] false) (.bl 4 (.lp (.sq (.sq (.rg [jM 30 5, jM 31 0, jM 32 4, jO 33 (.ia 1) [.t 31, .t 32], jO 34 (.fa 0) [.t 33], jO 35 (.ld none) [.t 34], jO 36 .len [.t 35], jO 37 (.bin .lss) [.t 30, .t 36]] false) (.cn (.t 37) (.skip) (.ex 4))) (.sq (.bl 5 (.sq (.rg [jM 40 0, jM 41 4, jO 42 (.ia 1) [.t 40, .t 41], jO 43 (.fa 0) [.t 42], jO 44 (.ld none) [.t 43], jM 45 5, jO 46 (.ia 1) [.t 44, .t 45], jO 47 (.ld none) [.t 46], jO 48 (.call 32 .fz) [.t 47], jO 49 (.un .not) [.t 48]] false) (.cn (.t 49) (.sq (.rg [jO 2 .mv [.k (jV 10)]] false) (.rt)) (.skip)))) (.rg [jM 38 5, jO 39 (.bin .add) [.t 38, .k (jV 1)], jM 5 39] false))))))) (.rg [jM 28 4, jO 29 (.bin .add) [.t 28, .k (jV 1)], jM 4 29] false)))))) (.sq (.rg [jO 2 .mv [.k jN]] false) (.rt)))))
theorem cf7 : compF Tryz.prog 7 c7 = some ⟨c7, [.t 2], 50⟩ := by kernel_rfl
def c8 : IC := .sq (.rg [jO 5 (.box (some 12)) [.t 2], jO 6 .mv [.k jN]] false) (.sq (.sq (.rg [jM 8 1, jO 9 (.call 7 .fz) [.t 8], jM 7 9] false) (.sq (.rg [jM 10 7, jO 11 (.bin .neq) [.t 10, .k jN]] false) (.cn (.t 11) (.sq (.rg [jM 12 7, jM 6 12] false) (.rt)) (.skip)))) (.sq (.sq (.rg [jM 13 0, jO 14 (.bin .lss) [.t 13, .k (jV 1)], jM 15 14, jG 16 15 false 0, jP 17 15 false (.bin .gtr) [.t 16, .k (jV 5)], jO 18 .pick [.t 15, .k (.c (.bool true)), .t 17], jM 19 18, jG 20 19 false 0, jG 21 19 false 1, jP 22 19 false (.ld (some 12)) [.t 5], jP 23 19 false (.call 33 .fz) [.t 20, .t 21, .t 22], jP 24 19 false (.un .not) [.t 23], jO 25 .pick [.t 19, .k (.c (.bool true)), .t 24]] false) (.cn (.t 25) (.sq (.rg [jO 6 .mv [.k (jV 1)]] false) (.rt)) (.skip))) (.sq (.rg [jO 6 .mv [.k jN]] false) (.rt))))
theorem cf8 : compF Tryz.prog 8 c8 = some ⟨c8, [.t 6], 26⟩ := by kernel_rfl
def c11 : IC := .sq (.rg [jO 2 (.box (some 3)) [.t 0], jO 3 (.box (some 3)) [.t 1], jO 4 .mv [.k jN]] false) (.sq (.sq (.rg [jO 5 (.fa 0) [.t 2], jO 6 (.ld none) [.t 5], jO 7 (.fa 0) [.t 3], jO 8 (.ld none) [.t 7], jO 9 (.bin .neq) [.t 6, .t 8]] false) (.cn (.t 9) (.sq (.rg [jO 10 (.fa 0) [.t 2], jO 11 (.ld none) [.t 10], jO 12 (.fa 0) [.t 3], jO 13 (.ld none) [.t 12], jO 14 (.bin .lss) [.t 11, .t 13], jO 15 (.call 34 .fz) [.t 14], jM 4 15] false) (.rt)) (.skip))) (.sq (.sq (.rg [jO 16 (.fa 1) [.t 2], jO 17 (.ld none) [.t 16], jO 18 (.fa 1) [.t 3], jO 19 (.ld none) [.t 18], jO 20 (.bin .neq) [.t 17, .t 19]] false) (.cn (.t 20) (.sq (.rg [jO 21 (.fa 1) [.t 2], jO 22 (.ld none) [.t 21], jO 23 (.fa 1) [.t 3], jO 24 (.ld none) [.t 23], jO 25 (.bin .lss) [.t 22, .t 24], jO 26 (.call 34 .fz) [.t 25], jM 4 26] false) (.rt)) (.skip))) (.sq (.sq (.rg [jO 27 (.fa 2) [.t 2], jO 28 (.ld none) [.t 27], jO 29 (.fa 2) [.t 3], jO 30 (.ld none) [.t 29], jO 31 (.bin .neq) [.t 28, .t 30]] false) (.cn (.t 31) (.sq (.rg [jO 32 (.fa 2) [.t 2], jO 33 (.ld none) [.t 32], jO 34 (.fa 2) [.t 3], jO 35 (.ld none) [.t 34], jO 36 (.bin .lss) [.t 33, .t 35], jO 37 (.call 34 .fz) [.t 36], jM 4 37] false) (.rt)) (.skip))) (.sq (.rg [jO 4 .mv [.k jN]] false) (.rt)))))
theorem cf11 : compF Tryz.prog 11 c11 = some ⟨c11, [.t 4], 38⟩ := by kernel_rfl
def c13 : IC := .sq (.rg [jO 6 .mv [.k .z], jO 7 .mv [.k jN]] false) (.sq (.rg [jM 24 1, jO 25 (.call 44 .fz) [.t 24], jM 8 25] false) (.sq (.bl 0 (.sq (.rg [jM 27 8, jO 28 (.bin .neq) [.t 27, .k jN], jM 26 28] false) (.cn (.t 26) (.sq (.rg [jM 29 8, jO 6 .mv [.k .z], jM 7 29] false) (.rt)) (.sq (.rg [jM 31 0, jO 32 (.bin .lss) [.t 31, .k (jV 1)], jM 33 32, jG 34 33 false 0, jP 35 33 false (.bin .gtr) [.t 34, .k (jV 5)], jO 36 .pick [.t 33, .k (.c (.bool true)), .t 35], jM 30 36] false) (.cn (.t 30) (.sq (.rg [jO 6 .mv [.k .z], jO 7 .mv [.k (jV 1)]] false) (.rt)) (.skip)))))) (.sq (.rg [jM 37 1, jO 38 .len [.t 37], ⟨(some 39), none, (.mks 1 [(.c (.map none))] false), [.t 38, .t 38]⟩, jM 9 39] false) (.sq (.sq (.rg [jM 40 9, jO 41 .len [.t 40], jO 42 .mv [.k jN]] false) (.bl 1 (.lp (.sq (.rg [jO 43 (.bin .lss) [.t 42, .t 41]] false) (.sq (.cn (.t 43) (.skip) (.ex 1)) (.sq (.bl 2 (.sq (.rg [jM 44 42, jM 10 44] false) (.rg [jM 45 9, jM 46 10, jO 47 .mkm [], jO 48 (.ia 1) [.t 45, .t 46], ⟨none, none, (.st 1), [.t 48, .t 47]⟩] false))) (.rg [jO 49 (.bin .add) [.t 42, .k (jV 1)], jM 42 49] false))))))) (.sq (.sq (.rg [jM 50 2, jO 51 .len [.t 50], jO 52 .mv [.k jN]] false) (.bl 3 (.lp (.sq (.rg [jO 53 (.bin .lss) [.t 52, .t 51]] false) (.sq (.cn (.t 53) (.skip) (.ex 3)) (.sq (.bl 4 (.sq (.rg [jO 54 (.ia 12) [.t 50, .t 52], jO 55 (.ld (some 12)) [.t 54], jO 12 (.alloc jZ) [], ⟨none, none, (.st 12), [.t 12, .t 55]⟩] false) (.sq (.rg [jM 56 0, jM 57 1, jO 58 (.ld (some 12)) [.t 12], jO 59 (.call 36 .fz) [.t 56, .t 57, .t 58], jM 13 59] false) (.sq (.sq (.rg [jM 60 13, jO 61 (.bin .neq) [.t 60, .k jN]] false) (.cn (.t 61) (.sq (.rg [jM 62 13, jO 6 .mv [.k .z], jM 7 62] false) (.rt)) (.skip))) (.sq (.rg [jM 63 9, jO 64 (.fa 7) [.t 12], jO 65 (.ld none) [.t 64], jO 66 (.ia 1) [.t 63, .t 65], jO 67 (.ld none) [.t 66], jO 68 (.fa 8) [.t 12], jO 69 (.ld none) [.t 68], ⟨(some 70), none, (.mlk false [1] (.c (.pointer none)) false), [.t 67, .t 69]⟩, jM 14 70] true) (.sq (.sq (.rg [jM 71 14, jO 72 (.nilq 1 false) [.t 71]] false) (.cn (.t 72) (.sq (.rg [jO 73 (.fa 8) [.t 12], jO 74 (.ld none) [.t 73], jM 75 1, jO 76 (.fa 7) [.t 12], jO 77 (.ld none) [.t 76], jO 78 (.ia 1) [.t 75, .t 77], jO 79 (.fa 0) [.t 78], jO 80 (.ld none) [.t 79], jO 81 .len [.t 80], jO 82 (.mks 12 jZ false) [.t 81, .t 81], ⟨(some 83), none, (.bld [(.c (.string ⟨#[]⟩)), .z, .z, .z] [(0, 1), (3, 1)]), [.t 74, .t 82]⟩, jO 84 (.box (some 4)) [.t 83], jM 14 84] true) (.rg [jM 85 9, jO 86 (.fa 7) [.t 12], jO 87 (.ld none) [.t 86], jO 88 (.ia 1) [.t 85, .t 87], jO 89 (.ld none) [.t 88], jO 90 (.fa 8) [.t 12], jO 91 (.ld none) [.t 90], jM 92 14, ⟨none, none, (.mup false [1]), [.t 89, .t 91, .t 92]⟩] true)) (.skip))) (.rg [jM 93 14, jO 94 (.ld (some 12)) [.t 12], jO 95 (.rcall 45) [.t 93, .t 94]] false))))))) (.rg [jO 96 (.bin .add) [.t 52, .k (jV 1)], jM 52 96] false))))))) (.sq (.rg [jO 15 .mv [.k .z]] false) (.sq (.sq (.rg [jM 97 9, jO 98 .len [.t 97], jO 99 .mv [.k jN]] false) (.bl 5 (.lp (.sq (.rg [jO 100 (.bin .lss) [.t 99, .t 98]] false) (.sq (.cn (.t 100) (.skip) (.ex 5)) (.sq (.bl 6 (.sq (.rg [jO 101 (.ia 1) [.t 97, .t 99], jO 102 (.ld none) [.t 101], jM 17 102] false) (.sq (.rg [jO 18 .mv [.k .z]] false) (.sq (.sq (.rg [jM 103 17, jO 104 .mrg [.t 103]] false) (.bl 7 (.lp (.sq (.rg [jO 105 .mnx [.t 104], jO 106 (.ext 0) [.t 105]] false) (.sq (.cn (.t 106) (.skip) (.ex 7)) (.bl 8 (.sq (.rg [jO 107 .ent [.t 104], jO 108 (.ext 0) [.t 107], jM 19 108] false) (.rg [jM 109 18, jM 110 19, ⟨(some 111), none, (.bsl 1 [(.c (.string ⟨#[]⟩))] [0] 1 true), [.t 110]⟩, jO 112 (.app 1) [.t 109, .t 111], jM 18 112] false)))))))) (.sq (.rg [jM 113 18, jO 114 (.rcall 46) [.t 113]] false) (.sq (.rg [jO 20 .mv [.k .z]] false) (.sq (.sq (.rg [jM 115 18, jO 116 .len [.t 115], jO 117 .mv [.k jN]] false) (.bl 9 (.lp (.sq (.rg [jO 118 (.bin .lss) [.t 117, .t 116]] false) (.sq (.cn (.t 118) (.skip) (.ex 9)) (.sq (.bl 10 (.sq (.rg [jO 119 (.ia 1) [.t 115, .t 117], jO 120 (.ld none) [.t 119], jM 22 120] false) (.sq (.rg [jM 121 17, jM 122 22, ⟨(some 123), none, (.mlk false [1] (.c (.pointer none)) false), [.t 121, .t 122]⟩, jO 124 (.rcall 47) [.t 123], jM 23 124] false) (.sq (.rg [jM 125 23, jO 126 .len [.t 125], jO 127 (.bin .gtr) [.t 126, .k jN]] false) (.cn (.t 127) (.rg [jM 128 20, jM 129 23, jO 130 (.bsl 1 [.z] [0] 1 true) [.t 129], jO 131 (.app 1) [.t 128, .t 130], jM 20 131] false) (.skip)))))) (.rg [jO 132 (.bin .add) [.t 117, .k (jV 1)], jM 117 132] false))))))) (.rg [jM 133 15, jM 134 20, jO 135 (.bsl 1 [.z] [0] 1 true) [.t 134], jO 136 (.app 1) [.t 133, .t 135], jM 15 136] false)))))))) (.rg [jO 137 (.bin .add) [.t 99, .k (jV 1)], jM 99 137] false))))))) (.sq (.rg [jM 138 15, jM 6 138, jO 7 .mv [.k jN]] false) (.rt)))))))))
theorem cf13 : compF Tryz.prog 13 c13 = some ⟨c13, [.t 6, .t 7], 139⟩ := by kernel_rfl
def c14 : IC := .sq (.rg [jO 4 .mv [.k .z], jO 5 .mv [.k jN]] false) (.sq (.sq (.rg [jM 10 0, jO 11 (.bin .lss) [.t 10, .k (jV 1)], jM 12 11, jG 13 12 false 0, jP 14 12 false (.bin .gtr) [.t 13, .k (jV 5)], jO 15 .pick [.t 12, .k (.c (.bool true)), .t 14]] false) (.cn (.t 15) (.sq (.rg [jO 4 .mv [.k .z], jO 5 .mv [.k (jV 1)]] false) (.rt)) (.skip))) (.sq (.rg [jM 16 0, jO 17 (.mks 1 [jN] false) [.t 16, .t 16], jM 6 17] false) (.sq (.sq (.rg [jM 18 1, jO 19 .len [.t 18], jO 20 .mv [.k jN]] false) (.bl 0 (.lp (.sq (.rg [jO 21 (.bin .lss) [.t 20, .t 19]] false) (.sq (.cn (.t 21) (.skip) (.ex 0)) (.sq (.bl 1 (.sq (.rg [jO 22 (.ia 12) [.t 18, .t 20], jO 23 (.ld (some 12)) [.t 22], jO 8 (.alloc jZ) [], ⟨none, none, (.st 12), [.t 8, .t 23]⟩] false) (.sq (.rg [jO 24 (.fa 0) [.t 8], jO 25 (.ld (some 2)) [.t 24], jO 9 (.alloc [jN, jN]) [], ⟨none, none, (.st 2), [.t 9, .t 25]⟩] false) (.sq (.sq (.rg [jO 26 (.fa 0) [.t 9], jO 27 (.ld none) [.t 26], jO 28 (.bin .lss) [.t 27, .k jN], jM 29 28, jP 30 29 false (.fa 0) [.t 9], jP 31 29 false (.ld none) [.t 30], jG 32 29 false 0, jP 33 29 false (.bin .geq) [.t 31, .t 32], jO 34 .pick [.t 29, .k (.c (.bool true)), .t 33], jM 35 34, jP 36 35 false (.fa 1) [.t 9], jP 37 35 false (.ld none) [.t 36], jP 38 35 false (.bin .lss) [.t 37, .k (jV 1)], jO 39 .pick [.t 35, .k (.c (.bool true)), .t 38], jM 40 39, jP 41 40 false (.fa 1) [.t 9], jP 42 40 false (.ld none) [.t 41], jP 43 40 false (.bin .gtr) [.t 42, .k (jV 1073741824)], jO 44 .pick [.t 40, .k (.c (.bool true)), .t 43]] false) (.cn (.t 44) (.sq (.rg [jO 4 .mv [.k .z], jO 5 .mv [.k (jV 1)]] false) (.rt)) (.skip))) (.rg [jM 45 6, jO 46 (.fa 0) [.t 9], jO 47 (.ld none) [.t 46], jM 48 6, jO 49 (.fa 0) [.t 9], jO 50 (.ld none) [.t 49], jO 51 (.ia 1) [.t 48, .t 50], jO 52 (.ld none) [.t 51], jO 53 (.fa 1) [.t 9], jO 54 (.ld none) [.t 53], jO 55 .mx [.t 52, .t 54], jO 56 (.ia 1) [.t 45, .t 47], ⟨none, none, (.st 1), [.t 56, .t 55]⟩] true))))) (.rg [jO 57 (.bin .add) [.t 20, .k (jV 1)], jM 20 57] false))))))) (.sq (.rg [jM 58 6, jM 4 58, jO 5 .mv [.k jN]] false) (.rt)))))
theorem cf14 : compF Tryz.prog 14 c14 = some ⟨c14, [.t 4, .t 5], 59⟩ := by kernel_rfl
def c15 : IC := .sq (.rg [jO 4 .mv [.k (.c (.bool false))]] false) (.sq (.sq (.rg [jM 6 0, jO 7 .len [.t 6], jM 8 1, jO 9 .len [.t 8], jO 10 (.bin .neq) [.t 7, .t 9]] false) (.cn (.t 10) (.sq (.rg [jO 4 .mv [.k (.c (.bool false))]] false) (.rt)) (.skip))) (.sq (.sq (.rg [jO 5 .mv [.k jN]] false) (.bl 0 (.lp (.sq (.sq (.rg [jM 11 5, jM 12 0, jO 13 .len [.t 12], jO 14 (.bin .lss) [.t 11, .t 13]] false) (.cn (.t 14) (.skip) (.ex 0))) (.sq (.bl 1 (.sq (.rg [jM 17 0, jM 18 5, jO 19 (.ia 1) [.t 17, .t 18], jO 20 (.ld none) [.t 19], jM 21 1, jM 22 5, jO 23 (.ia 1) [.t 21, .t 22], jO 24 (.ld none) [.t 23], jO 25 (.bin .neq) [.t 20, .t 24]] true) (.cn (.t 25) (.sq (.rg [jO 4 .mv [.k (.c (.bool false))]] false) (.rt)) (.skip)))) (.rg [jM 15 5, jO 16 (.bin .add) [.t 15, .k (jV 1)], jM 5 16] false)))))) (.sq (.rg [jO 4 .mv [.k (.c (.bool true))]] false) (.rt))))
theorem cf15 : compF Tryz.prog 15 c15 = some ⟨c15, [.t 4], 26⟩ := by kernel_rfl
def c16 : IC := .sq (.rg [jO 4 .mv [.k (.c (.bool false))]] false) (.sq (.sq (.rg [jM 12 0, jO 13 (.bin .lss) [.t 12, .k (jV 1)], jM 14 13, jG 15 14 false 0, jP 16 14 false (.bin .gtr) [.t 15, .k (jV 5)], jO 17 .pick [.t 14, .k (.c (.bool true)), .t 16]] false) (.cn (.t 17) (.sq (.rg [jO 4 .mv [.k (.c (.bool false))]] false) (.rt)) (.skip))) (.sq (.rg [jO 18 .mkm [], jM 5 18] false) (.sq (.sq (.rg [jM 19 1, jO 20 .len [.t 19], jO 21 .mv [.k jN]] false) (.bl 0 (.lp (.sq (.rg [jO 22 (.bin .lss) [.t 21, .t 20]] false) (.sq (.cn (.t 22) (.skip) (.ex 0)) (.sq (.bl 1 (.sq (.rg [jO 23 (.ia 12) [.t 19, .t 21], jO 24 (.ld (some 12)) [.t 23], jO 7 (.alloc jZ) [], ⟨none, none, (.st 12), [.t 7, .t 24]⟩] false) (.sq (.sq (.rg [jM 25 5, jO 26 (.fa 0) [.t 7], jO 27 (.ld (some 2)) [.t 26], ⟨(some 28), none, (.mlk true [0, 0] (.c (.bool false)) false), [.t 25, .t 27]⟩, jM 29 28, jP 30 29 false (.fa 0) [.t 7], jP 31 29 false (.fa 0) [.t 30], jP 32 29 false (.ld none) [.t 31], jP 33 29 false (.bin .lss) [.t 32, .k jN], jO 34 .pick [.t 29, .k (.c (.bool true)), .t 33], jM 35 34, jP 36 35 false (.fa 0) [.t 7], jP 37 35 false (.fa 0) [.t 36], jP 38 35 false (.ld none) [.t 37], jG 39 35 false 0, jP 40 35 false (.bin .geq) [.t 38, .t 39], jO 41 .pick [.t 35, .k (.c (.bool true)), .t 40], jM 42 41, jP 43 42 false (.fa 2) [.t 7], jP 44 42 false (.ld none) [.t 43], jP 45 42 false .len [.t 44], jG 46 42 false 0, jP 47 42 false (.bin .neq) [.t 45, .t 46], jO 48 .pick [.t 42, .k (.c (.bool true)), .t 47], jM 49 48, jP 50 49 false (.fa 2) [.t 7], jP 51 49 false (.ld none) [.t 50], jP 52 49 false (.call 48 .fz) [.t 51], jP 53 49 false (.bin .neq) [.t 52, .k jN], jO 54 .pick [.t 49, .k (.c (.bool true)), .t 53]] false) (.cn (.t 54) (.sq (.rg [jO 4 .mv [.k (.c (.bool false))]] false) (.rt)) (.skip))) (.rg [jM 55 5, jO 56 (.fa 0) [.t 7], jO 57 (.ld (some 2)) [.t 56], ⟨none, none, (.mup true [0, 0]), [.t 55, .t 57, .k (.c (.bool true))]⟩] false)))) (.rg [jO 58 (.bin .add) [.t 21, .k (jV 1)], jM 21 58] false))))))) (.sq (.sq (.rg [jM 59 1, jO 60 .len [.t 59], jO 61 .mv [.k jN]] false) (.bl 2 (.lp (.sq (.rg [jO 62 (.bin .lss) [.t 61, .t 60]] false) (.sq (.cn (.t 62) (.skip) (.ex 2)) (.sq (.bl 3 (.sq (.rg [jO 63 (.ia 12) [.t 59, .t 61], jO 64 (.ld (some 12)) [.t 63], jO 9 (.alloc jZ) [], ⟨none, none, (.st 12), [.t 9, .t 64]⟩] false) (.sq (.sq (.rg [jO 65 (.fa 0) [.t 9], jO 66 (.fa 1) [.t 65], jO 67 (.ld none) [.t 66], jO 68 (.bin .gtr) [.t 67, .k (jV 1)], jM 69 68, jG 70 69 true 5, jP 71 69 true (.fa 0) [.t 9], jP 72 69 true (.fa 0) [.t 71], jP 73 69 true (.ld none) [.t 72], jP 74 69 true (.fa 0) [.t 9], jP 75 69 true (.fa 1) [.t 74], jP 76 69 true (.ld none) [.t 75], jP 77 69 true (.bin .sub) [.t 76, .k (jV 1)], jP 78 69 true (.bld [jN, jN] [(0, 1), (1, 1)]) [.t 73, .t 77], ⟨(some 79), (some (69, true)), (.mlk true [0, 0] (.c (.bool false)) false), [.t 70, .t 78]⟩, jP 80 69 true (.un .not) [.t 79], jO 81 .pick [.t 69, .t 80, .k (.c (.bool false))]] false) (.cn (.t 81) (.sq (.rg [jO 4 .mv [.k (.c (.bool false))]] false) (.rt)) (.skip))) (.sq (.rg [jO 82 (.fa 2) [.t 9], jO 83 (.ld none) [.t 82], jO 84 .len [.t 83], jO 85 .mv [.k jN]] false) (.bl 4 (.lp (.sq (.rg [jO 86 (.bin .lss) [.t 85, .t 84]] false) (.sq (.cn (.t 86) (.skip) (.ex 4)) (.sq (.bl 5 (.sq (.rg [jM 87 85, jO 88 (.ia 1) [.t 83, .t 85], jO 89 (.ld none) [.t 88], jM 10 87, jM 11 89] false) (.sq (.rg [jM 90 5, jM 91 10, jM 92 11, jO 93 (.rcall 49) [.t 90, .t 91, .t 92], jO 94 (.un .not) [.t 93]] false) (.cn (.t 94) (.sq (.rg [jO 4 .mv [.k (.c (.bool false))]] false) (.rt)) (.skip))))) (.rg [jO 95 (.bin .add) [.t 85, .k (jV 1)], jM 85 95] false)))))))))) (.rg [jO 96 (.bin .add) [.t 61, .k (jV 1)], jM 61 96] false))))))) (.sq (.rg [jO 4 .mv [.k (.c (.bool true))]] false) (.rt))))))
theorem cf16 : compF Tryz.prog 16 c16 = some ⟨c16, [.t 4], 97⟩ := by kernel_rfl
def c17 : IC := .sq (.rg [jO 4 .mv [.k (.c (.bool false))]] false) (.sq (.sq (.rg [jM 6 0, jO 7 .len [.t 6], jM 8 1, jO 9 .len [.t 8], jO 10 (.bin .neq) [.t 7, .t 9]] false) (.cn (.t 10) (.sq (.rg [jO 4 .mv [.k (.c (.bool false))]] false) (.rt)) (.skip))) (.sq (.sq (.rg [jO 5 .mv [.k jN]] false) (.bl 0 (.lp (.sq (.sq (.rg [jM 11 5, jM 12 0, jO 13 .len [.t 12], jO 14 (.bin .lss) [.t 11, .t 13]] false) (.cn (.t 14) (.skip) (.ex 0))) (.sq (.bl 1 (.sq (.rg [jM 17 0, jM 18 5, jO 19 (.ia 1) [.t 17, .t 18], jO 20 (.ld none) [.t 19], jM 21 1, jM 22 5, jO 23 (.ia 1) [.t 21, .t 22], jO 24 (.ld none) [.t 23], jO 25 (.call 50 .fz) [.t 20, .t 24], jO 26 (.un .not) [.t 25]] true) (.cn (.t 26) (.sq (.rg [jO 4 .mv [.k (.c (.bool false))]] false) (.rt)) (.skip)))) (.rg [jM 15 5, jO 16 (.bin .add) [.t 15, .k (jV 1)], jM 5 16] false)))))) (.sq (.rg [jO 4 .mv [.k (.c (.bool true))]] false) (.rt))))
theorem cf17 : compF Tryz.prog 17 c17 = some ⟨c17, [.t 4], 27⟩ := by kernel_rfl
def c19 : IC := .sq (.rg [jO 4 .mv [.k (.c (.bool false))]] false) (.sq (.sq (.rg [jM 6 0, jO 7 .len [.t 6], jM 8 1, jO 9 .len [.t 8], jO 10 (.bin .neq) [.t 7, .t 9]] false) (.cn (.t 10) (.sq (.rg [jO 4 .mv [.k (.c (.bool false))]] false) (.rt)) (.skip))) (.sq (.sq (.rg [jO 5 .mv [.k jN]] false) (.bl 0 (.lp (.sq (.sq (.rg [jM 11 5, jM 12 0, jO 13 .len [.t 12], jO 14 (.bin .lss) [.t 11, .t 13]] false) (.cn (.t 14) (.skip) (.ex 0))) (.sq (.bl 1 (.sq (.rg [jM 17 0, jM 18 5, jO 19 (.ia 12) [.t 17, .t 18], jO 20 (.ld (some 12)) [.t 19], jM 21 1, jM 22 5, jO 23 (.ia 12) [.t 21, .t 22], jO 24 (.ld (some 12)) [.t 23], jO 25 (.call 51 .fz) [.t 20, .t 24], jO 26 (.un .not) [.t 25]] true) (.cn (.t 26) (.sq (.rg [jO 4 .mv [.k (.c (.bool false))]] false) (.rt)) (.skip)))) (.rg [jM 15 5, jO 16 (.bin .add) [.t 15, .k (jV 1)], jM 5 16] false)))))) (.sq (.rg [jO 4 .mv [.k (.c (.bool true))]] false) (.rt))))
theorem cf19 : compF Tryz.prog 19 c19 = some ⟨c19, [.t 4], 27⟩ := by kernel_rfl
def c20 : IC := .sq (.rg [jO 4 .mv [.k .z]] false) (.sq (.rg [jO 5 .mv [.k .z]] false) (.sq (.sq (.rg [jM 8 0, jO 9 .len [.t 8], jO 10 .mv [.k jN]] false) (.bl 0 (.lp (.sq (.rg [jO 11 (.bin .lss) [.t 10, .t 9]] false) (.sq (.cn (.t 11) (.skip) (.ex 0)) (.sq (.bl 1 (.sq (.rg [jO 12 (.ia 12) [.t 8, .t 10], jO 13 (.ld (some 12)) [.t 12], jO 7 (.alloc jZ) [], ⟨none, none, (.st 12), [.t 7, .t 13]⟩] false) (.sq (.rg [jM 14 1, jO 15 (.fa 0) [.t 7], jO 16 (.ld (some 2)) [.t 15], jO 17 (.call 52 .fz) [.t 14, .t 16]] false) (.cn (.t 17) (.rg [jM 18 5, jO 19 (.ld (some 12)) [.t 7], jO 20 (.rcall 53) [.t 19], jO 21 (.bsl 12 jZ [0] 1 true) [.t 20], jO 22 (.app 12) [.t 18, .t 21], jM 5 22] false) (.skip))))) (.rg [jO 23 (.bin .add) [.t 10, .k (jV 1)], jM 10 23] false))))))) (.sq (.rg [jM 24 5, jM 4 24] false) (.rt))))
theorem cf20 : compF Tryz.prog 20 c20 = some ⟨c20, [.t 4], 25⟩ := by kernel_rfl
def c21 : IC := .sq (.rg [jO 0 .mv [.k (.c (.bool false))]] false) (.sq (.rg [jO 7 (.bsl 1 [jN] [0] 1 true) [.k (jV 3)], jO 8 (.bld [.z] [(0, 1)]) [.t 7], jO 9 (.bsl 1 [.z] [0] 1 true) [.t 8], jM 1 9] false) (.sq (.rg [jO 10 (.bld [jN, jN] [(1, 1)]) [.k (jV 1)], jO 11 (.bsl 1 [jN] [0] 1 true) [.k jN], ⟨(some 12), none, (.bld [jN, jN, (.c (.string ⟨#[]⟩))] [(0, 1), (1, 1)]), [.k (jV 3), .k (jV 3)]⟩, ⟨(some 13), none, (.bsl 3 [jN, jN, (.c (.string ⟨#[]⟩))] [0] 1 true), [.t 12]⟩, ⟨(some 14), none, (.bld jZ [(0, 2), (2, 1), (6, 1), (8, 1), (10, 1)]), [.t 10, .t 11, .k (jV 1), .k (.c (.string ⟨#[107]⟩)), .t 13]⟩, jO 2 (.alloc jZ) [], ⟨none, none, (.st 12), [.t 2, .t 14]⟩] false) (.sq (.rg [jM 16 1, jO 17 (.ld (some 12)) [.t 2], jO 18 (.bsl 12 jZ [0] 1 true) [.t 17], jO 19 (.call 13 .fz) [.k (jV 1), .t 16, .t 18], jM 15 19, jO 20 (.ext 0) [.t 15], jO 21 (.ext 1) [.t 15], jM 3 20, jM 4 21] false) (.sq (.rg [jO 23 (.ld (some 12)) [.t 2], jO 24 (.bsl 12 jZ [0] 1 true) [.t 23], jO 25 (.call 14 .fz) [.k (jV 1), .t 24], jM 22 25, jO 26 (.ext 0) [.t 22], jO 27 (.ext 1) [.t 22], jM 5 26, jM 6 27] false) (.sq (.rg [jM 28 4, jO 29 (.bin .eql) [.t 28, .k jN], jM 30 29, jG 31 30 true 6, jP 32 30 true (.bin .eql) [.t 31, .k jN], jO 33 .pick [.t 30, .t 32, .k (.c (.bool false))], jM 34 33, jG 35 34 true 3, jP 36 34 true .len [.t 35], jP 37 34 true (.bin .eql) [.t 36, .k (jV 1)], jO 38 .pick [.t 34, .t 37, .k (.c (.bool false))], jM 39 38, jG 40 39 true 3, jP 41 39 true (.ia 1) [.t 40, .k jN], jP 42 39 true (.ld none) [.t 41], jP 43 39 true .len [.t 42], jP 44 39 true (.bin .eql) [.t 43, .k (jV 1)], jO 45 .pick [.t 39, .t 44, .k (.c (.bool false))], jM 46 45, jG 47 46 true 5, jP 48 46 true .len [.t 47], jP 49 46 true (.bin .eql) [.t 48, .k (jV 1)], jO 50 .pick [.t 46, .t 49, .k (.c (.bool false))], jM 51 50, jG 52 51 true 5, jP 53 51 true (.ia 1) [.t 52, .k jN], jP 54 51 true (.ld none) [.t 53], jP 55 51 true (.bin .eql) [.t 54, .k (jV 1)], jO 56 .pick [.t 51, .t 55, .k (.c (.bool false))], jM 57 56, jP 58 57 true (.ld (some 12)) [.t 2], jP 59 57 true (.bsl 12 jZ [0] 1 true) [.t 58], jP 60 57 true (.call 16 .fz) [.k (jV 1), .t 59], jO 61 .pick [.t 57, .t 60, .k (.c (.bool false))], jM 62 61, jP 63 62 true (.ld (some 12)) [.t 2], jP 64 62 true (.bsl 12 jZ [0] 1 true) [.t 63], jP 65 62 true (.bsl 1 [jN] [0] 1 true) [.k jN], jP 66 62 true (.call 20 .fz) [.t 64, .t 65], jP 67 62 true .len [.t 66], jP 68 62 true (.bin .eql) [.t 67, .k jN], jO 69 .pick [.t 62, .t 68, .k (.c (.bool false))], jM 0 69] false) (.rt))))))
theorem cf21 : compF Tryz.prog 21 c21 = some ⟨c21, [.t 0], 70⟩ := by kernel_rfl
def c22 : IC := .sq (.rg [jO 2 .mv [.k .z]] false) (.sq (.rg [jO 3 .mv [.k .z]] false) (.sq (.sq (.rg [jO 4 .mv [.k jN]] false) (.bl 0 (.lp (.sq (.sq (.rg [jM 5 4, jM 6 0, jO 7 .len [.t 6], jO 8 (.bin .lss) [.t 5, .t 7]] false) (.cn (.t 8) (.skip) (.ex 0))) (.sq (.bl 1 (.rg [jM 11 3, jM 12 0, jM 13 4, jO 14 (.ia 12) [.t 12, .t 13], jO 15 (.ld (some 12)) [.t 14], jO 16 (.call 54 .fz) [.t 15], jO 17 (.bsl 12 jZ [0] 1 true) [.t 16], jO 18 (.app 12) [.t 11, .t 17], jM 3 18] false)) (.rg [jM 9 4, jO 10 (.bin .add) [.t 9, .k (jV 1)], jM 4 10] false)))))) (.sq (.rg [jM 19 3, jM 2 19] false) (.rt))))
theorem cf22 : compF Tryz.prog 22 c22 = some ⟨c22, [.t 2], 20⟩ := by kernel_rfl
def c23 : IC := .sq (.rg [jO 2 .mv [.k .z]] false) (.sq (.rg [jO 3 .mv [.k .z]] false) (.sq (.sq (.rg [jO 4 .mv [.k jN]] false) (.bl 0 (.lp (.sq (.sq (.rg [jM 5 4, jM 6 0, jO 7 .len [.t 6], jO 8 (.bin .lss) [.t 5, .t 7]] false) (.cn (.t 8) (.skip) (.ex 0))) (.sq (.bl 1 (.rg [jM 11 3, jM 12 0, jM 13 4, jO 14 (.ia 1) [.t 12, .t 13], jO 15 (.fa 0) [.t 14], jO 16 (.ld none) [.t 15], jO 17 (.call 55 .fz) [.t 16], jO 18 (.bld [.z] [(0, 1)]) [.t 17], jO 19 (.bsl 1 [.z] [0] 1 true) [.t 18], jO 20 (.app 1) [.t 11, .t 19], jM 3 20] false)) (.rg [jM 9 4, jO 10 (.bin .add) [.t 9, .k (jV 1)], jM 4 10] false)))))) (.sq (.rg [jM 21 3, jM 2 21] false) (.rt))))
theorem cf23 : compF Tryz.prog 23 c23 = some ⟨c23, [.t 2], 22⟩ := by kernel_rfl
def c24 : IC := .sq (.rg [jO 4 .mv [.k (.c (.bool false))]] false) (.sq (.sq (.rg [jM 6 0, jO 7 .len [.t 6], jM 8 1, jO 9 .len [.t 8], jO 10 (.bin .neq) [.t 7, .t 9]] false) (.cn (.t 10) (.sq (.rg [jO 4 .mv [.k (.c (.bool false))]] false) (.rt)) (.skip))) (.sq (.sq (.rg [jO 5 .mv [.k jN]] false) (.bl 0 (.lp (.sq (.sq (.rg [jM 11 5, jM 12 0, jO 13 .len [.t 12], jO 14 (.bin .lss) [.t 11, .t 13]] false) (.cn (.t 14) (.skip) (.ex 0))) (.sq (.bl 1 (.sq (.rg [jM 17 0, jM 18 5, jO 19 (.ia 1) [.t 17, .t 18], jO 20 (.fa 0) [.t 19], jO 21 (.ld none) [.t 20], jM 22 1, jM 23 5, jO 24 (.ia 1) [.t 22, .t 23], jO 25 (.fa 0) [.t 24], jO 26 (.ld none) [.t 25], jO 27 (.call 15 .fz) [.t 21, .t 26], jO 28 (.un .not) [.t 27]] true) (.cn (.t 28) (.sq (.rg [jO 4 .mv [.k (.c (.bool false))]] false) (.rt)) (.skip)))) (.rg [jM 15 5, jO 16 (.bin .add) [.t 15, .k (jV 1)], jM 5 16] false)))))) (.sq (.rg [jO 4 .mv [.k (.c (.bool true))]] false) (.rt))))
theorem cf24 : compF Tryz.prog 24 c24 = some ⟨c24, [.t 4], 29⟩ := by kernel_rfl
def c25 : IC := .sq (.rg [jO 4 .mv [.k (.c (.bool false))]] false) (.sq (.sq (.rg [jM 11 0, jO 12 (.call 56 .fz) [.t 11, .k (jV 1), .k (jV 5)], jO 13 (.un .not) [.t 12]] false) (.cn (.t 13) (.sq (.rg [jO 4 .mv [.k (.c (.bool false))]] false) (.rt)) (.skip))) (.sq (.sq (.rg [jO 5 .mv [.k jN]] false) (.bl 0 (.lp (.sq (.sq (.rg [jM 14 5, jM 15 1, jO 16 .len [.t 15], jO 17 (.bin .lss) [.t 14, .t 16]] false) (.cn (.t 17) (.skip) (.ex 0))) (.sq (.bl 1 (.sq (.rg [jM 20 1, jM 21 5, jO 22 (.ia 12) [.t 20, .t 21], jO 23 (.fa 0) [.t 22], jO 24 (.ld (some 2)) [.t 23], jO 6 (.alloc [jN, jN]) [], ⟨none, none, (.st 2), [.t 6, .t 24]⟩] false) (.sq (.sq (.rg [jO 25 (.fa 0) [.t 6], jO 26 (.ld none) [.t 25], jM 27 0, jO 28 (.bin .sub) [.t 27, .k (jV 1)], jO 29 (.call 56 .fz) [.t 26, .k jN, .t 28], jO 30 (.un .not) [.t 29], jM 31 30, jG 32 31 false 1, jG 33 31 false 5, jP 34 31 false (.ia 12) [.t 32, .t 33], jP 35 31 false (.fa 2) [.t 34], jP 36 31 false (.ld none) [.t 35], jP 37 31 false .len [.t 36], jG 38 31 false 0, jP 39 31 false (.bin .neq) [.t 37, .t 38], jO 40 .pick [.t 31, .k (.c (.bool true)), .t 39], jM 41 40, jG 42 41 false 1, jG 43 41 false 5, jP 44 41 false (.ia 12) [.t 42, .t 43], jP 45 41 false (.fa 2) [.t 44], jP 46 41 false (.ld none) [.t 45], jP 47 41 false (.call 57 .fz) [.t 46], jP 48 41 false (.bin .neq) [.t 47, .k jN], jO 49 .pick [.t 41, .k (.c (.bool true)), .t 48]] false) (.cn (.t 49) (.sq (.rg [jO 4 .mv [.k (.c (.bool false))]] false) (.rt)) (.skip))) (.sq (.rg [jO 7 .mv [.k jN]] false) (.bl 2 (.lp (.sq (.sq (.rg [jM 50 7, jM 51 5, jO 52 (.bin .lss) [.t 50, .t 51]] false) (.cn (.t 52) (.skip) (.ex 2))) (.sq (.bl 3 (.sq (.rg [jM 55 1, jM 56 7, jO 57 (.ia 12) [.t 55, .t 56], jO 58 (.fa 0) [.t 57], jO 59 (.ld (some 2)) [.t 58], jO 60 (.ld (some 2)) [.t 6], jO 61 (.call 58 .fz) [.t 59, .t 60]] true) (.cn (.t 61) (.sq (.rg [jO 4 .mv [.k (.c (.bool false))]] false) (.rt)) (.skip)))) (.rg [jM 53 7, jO 54 (.bin .add) [.t 53, .k (jV 1)], jM 7 54] false))))))))) (.rg [jM 18 5, jO 19 (.bin .add) [.t 18, .k (jV 1)], jM 5 19] false)))))) (.sq (.sq (.rg [jO 8 .mv [.k jN]] false) (.bl 4 (.lp (.sq (.sq (.rg [jM 62 8, jM 63 1, jO 64 .len [.t 63], jO 65 (.bin .lss) [.t 62, .t 64]] false) (.cn (.t 65) (.skip) (.ex 4))) (.sq (.bl 5 (.sq (.sq (.rg [jM 68 1, jM 69 8, jO 70 (.ia 12) [.t 68, .t 69], jO 71 (.fa 0) [.t 70], jO 72 (.fa 1) [.t 71], jO 73 (.ld none) [.t 72], jO 74 (.bin .gtr) [.t 73, .k (jV 1)], jM 75 74, jG 76 75 true 1, jG 77 75 true 1, jG 78 75 true 8, jP 79 75 true (.ia 12) [.t 77, .t 78], jP 80 75 true (.fa 0) [.t 79], jP 81 75 true (.fa 0) [.t 80], jP 82 75 true (.ld none) [.t 81], jG 83 75 true 1, jG 84 75 true 8, jP 85 75 true (.ia 12) [.t 83, .t 84], jP 86 75 true (.fa 0) [.t 85], jP 87 75 true (.fa 1) [.t 86], jP 88 75 true (.ld none) [.t 87], jP 89 75 true (.bin .sub) [.t 88, .k (jV 1)], jP 90 75 true (.bld [jN, jN] [(0, 1), (1, 1)]) [.t 82, .t 89], jP 91 75 true (.call 59 .fz) [.t 76, .t 90], jP 92 75 true (.un .not) [.t 91], jO 93 .pick [.t 75, .t 92, .k (.c (.bool false))]] true) (.cn (.t 93) (.sq (.rg [jO 4 .mv [.k (.c (.bool false))]] false) (.rt)) (.skip))) (.sq (.rg [jO 9 .mv [.k jN]] false) (.bl 6 (.lp (.sq (.sq (.rg [jM 94 9, jM 95 0, jO 96 (.bin .lss) [.t 94, .t 95]] false) (.cn (.t 96) (.skip) (.ex 6))) (.sq (.bl 7 (.sq (.sq (.rg [jM 99 1, jM 100 8, jO 101 (.ia 12) [.t 99, .t 100], jO 102 (.fa 2) [.t 101], jO 103 (.ld none) [.t 102], jM 104 9, jO 105 (.ia 1) [.t 103, .t 104], jO 106 (.ld none) [.t 105], jM 107 1, jO 108 .len [.t 107], jO 109 (.bin .gtr) [.t 106, .t 108]] false) (.cn (.t 109) (.sq (.rg [jO 4 .mv [.k (.c (.bool false))]] false) (.rt)) (.skip))) (.sq (.rg [jO 10 .mv [.k (jV 1)]] false) (.bl 8 (.lp (.sq (.sq (.rg [jM 110 10, jM 111 1, jM 112 8, jO 113 (.ia 12) [.t 111, .t 112], jO 114 (.fa 2) [.t 113], jO 115 (.ld none) [.t 114], jM 116 9, jO 117 (.ia 1) [.t 115, .t 116], jO 118 (.ld none) [.t 117], jO 119 (.bin .leq) [.t 110, .t 118]] false) (.cn (.t 119) (.skip) (.ex 8))) (.sq (.bl 9 (.sq (.rg [jM 122 1, jM 123 9, jM 124 10, jO 125 (.bld [jN, jN] [(0, 1), (1, 1)]) [.t 123, .t 124], jO 126 (.call 59 .fz) [.t 122, .t 125], jO 127 (.un .not) [.t 126]] false) (.cn (.t 127) (.sq (.rg [jO 4 .mv [.k (.c (.bool false))]] false) (.rt)) (.skip)))) (.rg [jM 120 10, jO 121 (.bin .add) [.t 120, .k (jV 1)], jM 10 121] false)))))))) (.rg [jM 97 9, jO 98 (.bin .add) [.t 97, .k (jV 1)], jM 9 98] false)))))))) (.rg [jM 66 8, jO 67 (.bin .add) [.t 66, .k (jV 1)], jM 8 67] false)))))) (.sq (.rg [jO 4 .mv [.k (.c (.bool true))]] false) (.rt)))))
theorem cf25 : compF Tryz.prog 25 c25 = some ⟨c25, [.t 4], 128⟩ := by kernel_rfl
def c26 : IC := .sq (.rg [jO 4 .mv [.k .z]] false) (.sq (.rg [jO 5 .mv [.k .z]] false) (.sq (.sq (.rg [jO 6 .mv [.k jN]] false) (.bl 0 (.lp (.sq (.sq (.rg [jM 7 6, jM 8 0, jO 9 .len [.t 8], jO 10 (.bin .lss) [.t 7, .t 9]] false) (.cn (.t 10) (.skip) (.ex 0))) (.sq (.bl 1 (.sq (.rg [jM 13 1, jM 14 0, jM 15 6, jO 16 (.ia 12) [.t 14, .t 15], jO 17 (.fa 0) [.t 16], jO 18 (.ld (some 2)) [.t 17], jO 19 (.call 60 .fz) [.t 13, .t 18]] false) (.cn (.t 19) (.rg [jM 20 5, jM 21 0, jM 22 6, jO 23 (.ia 12) [.t 21, .t 22], jO 24 (.ld (some 12)) [.t 23], jO 25 (.bsl 12 jZ [0] 1 true) [.t 24], jO 26 (.app 12) [.t 20, .t 25], jM 5 26] false) (.skip)))) (.rg [jM 11 6, jO 12 (.bin .add) [.t 11, .k (jV 1)], jM 6 12] false)))))) (.sq (.rg [jM 27 5, jO 28 (.call 22 .fz) [.t 27], jM 4 28] false) (.rt))))
theorem cf26 : compF Tryz.prog 26 c26 = some ⟨c26, [.t 4], 29⟩ := by kernel_rfl
def c27 : IC := .sq (.rg [jO 2 .mv [.k jN]] false) (.bl 0 (.lp (.sq (.sq (.rg [jM 4 2, jM 5 0, jO 6 .len [.t 5], jO 7 (.bin .lss) [.t 4, .t 6]] false) (.cn (.t 7) (.skip) (.ex 0))) (.sq (.bl 1 (.sq (.rg [jM 10 0, jM 11 2, jO 12 (.ia 12) [.t 10, .t 11], jO 13 (.fa 2) [.t 12], jO 14 (.ld none) [.t 13], jO 15 (.rcall 61) [.t 14]] false) (.sq (.rg [jM 16 0, jM 17 2, jO 18 (.ia 12) [.t 16, .t 17], jO 19 (.fa 10) [.t 18], jO 20 (.ld none) [.t 19], jO 21 (.rcall 62) [.t 20]] false) (.sq (.sq (.rg [jO 3 .mv [.k jN]] false) (.bl 2 (.lp (.sq (.sq (.rg [jM 22 3, jM 23 0, jM 24 2, jO 25 (.ia 12) [.t 23, .t 24], jO 26 (.fa 11) [.t 25], jO 27 (.ld none) [.t 26], jO 28 .len [.t 27], jO 29 (.bin .lss) [.t 22, .t 28]] false) (.cn (.t 29) (.skip) (.ex 2))) (.sq (.bl 3 (.rg [jM 32 0, jM 33 2, jO 34 (.ia 12) [.t 32, .t 33], jO 35 (.fa 11) [.t 34], jO 36 (.ld none) [.t 35], jM 37 3, jO 38 (.ia 2) [.t 36, .t 37], jO 39 (.fa 1) [.t 38], ⟨none, none, (.st 1), [.t 39, .k (jV (-9))]⟩] false)) (.rg [jM 30 3, jO 31 (.bin .add) [.t 30, .k (jV 1)], jM 3 31] false)))))) (.rg [jM 40 0, jM 41 2, jO 42 (.ia 12) [.t 40, .t 41], jO 43 (.fa 8) [.t 42], ⟨none, none, (.st 1), [.t 43, .k (.c (.string ⟨#[63]⟩))]⟩] false))))) (.rg [jM 8 2, jO 9 (.bin .add) [.t 8, .k (jV 1)], jM 2 9] false)))))
theorem cf27 : compF Tryz.prog 27 c27 = some ⟨c27, [], 44⟩ := by kernel_rfl
def c28 : IC := .sq (.rg [jO 4 .mv [.k (.c (.bool false))]] false) (.sq (.sq (.rg [jM 6 0, jO 7 .len [.t 6], jM 8 1, jO 9 .len [.t 8], jO 10 (.bin .neq) [.t 7, .t 9]] false) (.cn (.t 10) (.sq (.rg [jO 4 .mv [.k (.c (.bool false))]] false) (.rt)) (.skip))) (.sq (.sq (.rg [jO 5 .mv [.k jN]] false) (.bl 0 (.lp (.sq (.sq (.rg [jM 11 5, jM 12 0, jO 13 .len [.t 12], jO 14 (.bin .lss) [.t 11, .t 13]] false) (.cn (.t 14) (.skip) (.ex 0))) (.sq (.bl 1 (.sq (.rg [jM 17 0, jM 18 5, jO 19 (.ia 1) [.t 17, .t 18], jO 20 (.ld none) [.t 19], jM 21 1, jM 22 5, jO 23 (.ia 1) [.t 21, .t 22], jO 24 (.ld none) [.t 23], jO 25 (.call 17 .fz) [.t 20, .t 24], jO 26 (.un .not) [.t 25]] true) (.cn (.t 26) (.sq (.rg [jO 4 .mv [.k (.c (.bool false))]] false) (.rt)) (.skip)))) (.rg [jM 15 5, jO 16 (.bin .add) [.t 15, .k (jV 1)], jM 5 16] false)))))) (.sq (.rg [jO 4 .mv [.k (.c (.bool true))]] false) (.rt))))
theorem cf28 : compF Tryz.prog 28 c28 = some ⟨c28, [.t 4], 27⟩ := by kernel_rfl
def c29 : IC := .sq (.rg [jO 4 .mv [.k .z]] false) (.sq (.rg [jO 5 .mv [.k .z]] false) (.sq (.sq (.rg [jO 6 .mv [.k jN]] false) (.bl 0 (.lp (.sq (.sq (.rg [jM 12 6, jM 13 0, jO 14 .len [.t 13], jO 15 (.bin .lss) [.t 12, .t 14]] false) (.cn (.t 15) (.skip) (.ex 0))) (.sq (.bl 1 (.sq (.rg [jO 7 .mv [.k .z]] false) (.sq (.sq (.rg [jO 8 .mv [.k jN]] false) (.bl 2 (.lp (.sq (.sq (.rg [jM 18 8, jM 19 1, jO 20 .len [.t 19], jO 21 (.bin .lss) [.t 18, .t 20]] false) (.cn (.t 21) (.skip) (.ex 2))) (.sq (.bl 3 (.sq (.rg [jM 24 1, jM 25 8, jO 26 (.ia 12) [.t 24, .t 25], jO 27 (.fa 7) [.t 26], jO 28 (.ld none) [.t 27], jM 29 6, jO 30 (.bin .eql) [.t 28, .t 29]] false) (.cn (.t 30) (.rg [jM 31 7, jM 32 1, jM 33 8, jO 34 (.ia 12) [.t 32, .t 33], jO 35 (.fa 8) [.t 34], jO 36 (.ld none) [.t 35], jO 37 (.call 63 .fz) [.t 31, .t 36], jM 7 37] false) (.skip)))) (.rg [jM 22 8, jO 23 (.bin .add) [.t 22, .k (jV 1)], jM 8 23] false)))))) (.sq (.rg [jO 9 .mv [.k .z]] false) (.sq (.sq (.rg [jO 10 .mv [.k jN]] false) (.bl 4 (.lp (.sq (.sq (.rg [jM 38 10, jM 39 7, jO 40 .len [.t 39], jO 41 (.bin .lss) [.t 38, .t 40]] false) (.cn (.t 41) (.skip) (.ex 4))) (.sq (.bl 5 (.sq (.rg [jM 44 0, jM 45 6, jO 46 (.ia 1) [.t 44, .t 45], jO 47 (.fa 0) [.t 46], jO 48 (.ld none) [.t 47], jO 49 .len [.t 48], jM 50 6, jM 51 7, jM 52 10, jO 53 (.ia 1) [.t 51, .t 52], jO 54 (.ld none) [.t 53], jM 55 1, jO 56 (.call 64 .fz) [.t 49, .t 50, .t 54, .t 55], jM 11 56] true) (.sq (.rg [jM 57 11, jO 58 .len [.t 57], jO 59 (.bin .gtr) [.t 58, .k jN]] false) (.cn (.t 59) (.rg [jM 60 9, jM 61 11, jO 62 (.bsl 1 [.z] [0] 1 true) [.t 61], jO 63 (.app 1) [.t 60, .t 62], jM 9 63] false) (.skip))))) (.rg [jM 42 10, jO 43 (.bin .add) [.t 42, .k (jV 1)], jM 10 43] false)))))) (.rg [jM 64 5, jM 65 9, jO 66 (.bsl 1 [.z] [0] 1 true) [.t 65], jO 67 (.app 1) [.t 64, .t 66], jM 5 67] false)))))) (.rg [jM 16 6, jO 17 (.bin .add) [.t 16, .k (jV 1)], jM 6 17] false)))))) (.sq (.rg [jM 68 5, jM 4 68] false) (.rt))))
theorem cf29 : compF Tryz.prog 29 c29 = some ⟨c29, [.t 4], 69⟩ := by kernel_rfl
def c30 : IC := .sq (.rg [jO 2 .mv [.k (.c (.bool false))]] false) (.sq (.rg [jM 3 0, jO 4 .len [.t 3], jO 5 (.bin .gtr) [.t 4, .k (jV 40)], jM 6 5, jG 7 6 false 0, jP 8 6 false (.call 65 .fz) [.t 7], jO 9 .pick [.t 6, .k (.c (.bool true)), .t 8], jM 2 9] false) (.rt))
theorem cf30 : compF Tryz.prog 30 c30 = some ⟨c30, [.t 2], 10⟩ := by kernel_rfl
def c31 : IC := .sq (.rg [jO 6 .mv [.k (.c (.bool false))]] false) (.sq (.rg [jM 7 0, jM 8 1, jO 9 (.bin .geq) [.t 7, .t 8], jM 10 9, jG 11 10 true 0, jG 12 10 true 2, jP 13 10 true (.bin .leq) [.t 11, .t 12], jO 14 .pick [.t 10, .t 13, .k (.c (.bool false))], jM 6 14] false) (.rt))
theorem cf31 : compF Tryz.prog 31 c31 = some ⟨c31, [.t 6], 15⟩ := by kernel_rfl
def c32 : IC := .sq (.rg [jO 2 .mv [.k (.c (.bool false))]] false) (.sq (.rg [jM 3 0, jO 4 (.call 31 .fz) [.t 3, .k (jV 2), .k (jV 4)], jM 2 4] false) (.rt))
theorem cf32 : compF Tryz.prog 32 c32 = some ⟨c32, [.t 2], 5⟩ := by kernel_rfl
def c33 : IC := .sq (.rg [jO 5 (.box (some 12)) [.t 2], jO 6 .mv [.k (.c (.bool false))]] false) (.sq (.sq (.rg [jO 10 (.fa 0) [.t 5], jO 11 (.fa 0) [.t 10], jO 12 (.ld none) [.t 11], jM 13 0, jO 14 (.bin .sub) [.t 13, .k (jV 1)], jO 15 (.call 31 .fz) [.t 12, .k jN, .t 14], jO 16 (.un .not) [.t 15], jM 17 16, jP 18 17 false (.fa 0) [.t 5], jP 19 17 false (.fa 1) [.t 18], jP 20 17 false (.ld none) [.t 19], jP 21 17 false (.call 31 .fz) [.t 20, .k (jV 1), .k (jV 1073741824)], jP 22 17 false (.un .not) [.t 21], jO 23 .pick [.t 17, .k (.c (.bool true)), .t 22], jM 24 23, jP 25 24 false (.fa 2) [.t 5], jP 26 24 false (.ld none) [.t 25], jP 27 24 false .len [.t 26], jG 28 24 false 0, jP 29 24 false (.bin .neq) [.t 27, .t 28], jO 30 .pick [.t 24, .k (.c (.bool true)), .t 29], jM 31 30, jP 32 31 false (.fa 2) [.t 5], jP 33 31 false (.ld none) [.t 32], jP 34 31 false (.call 57 .fz) [.t 33], jP 35 31 false (.bin .neq) [.t 34, .k jN], jO 36 .pick [.t 31, .k (.c (.bool true)), .t 35], jM 37 36, jP 38 37 false (.fa 2) [.t 5], jP 39 37 false (.ld none) [.t 38], jP 40 37 false (.fa 0) [.t 5], jP 41 37 false (.fa 0) [.t 40], jP 42 37 false (.ld none) [.t 41], jP 43 37 false (.ia 1) [.t 39, .t 42], jP 44 37 false (.ld none) [.t 43], jP 45 37 false (.fa 0) [.t 5], jP 46 37 false (.fa 1) [.t 45], jP 47 37 false (.ld none) [.t 46], jP 48 37 false (.bin .sub) [.t 47, .k (jV 1)], jP 49 37 false (.bin .neq) [.t 44, .t 48], jO 50 .pick [.t 37, .k (.c (.bool true)), .t 49], jM 51 50, jP 52 51 false (.fa 3) [.t 5], jP 53 51 false (.ld (some 3)) [.t 52], jP 54 51 false (.call 66 .fz) [.t 53], jP 55 51 false (.un .not) [.t 54], jO 56 .pick [.t 51, .k (.c (.bool true)), .t 55], jM 57 56, jP 58 57 false (.fa 3) [.t 5], jP 59 57 false (.fa 2) [.t 58], jP 60 57 false (.ld none) [.t 59], jP 61 57 false (.fa 0) [.t 5], jP 62 57 false (.fa 0) [.t 61], jP 63 57 false (.ld none) [.t 62], jP 64 57 false (.bin .neq) [.t 60, .t 63], jO 65 .pick [.t 57, .k (.c (.bool true)), .t 64], jM 66 65, jP 67 66 false (.fa 7) [.t 5], jP 68 66 false (.ld none) [.t 67], jG 69 66 false 1, jP 70 66 false .len [.t 69], jP 71 66 false (.bin .sub) [.t 70, .k (jV 1)], jP 72 66 false (.call 31 .fz) [.t 68, .k jN, .t 71], jP 73 66 false (.un .not) [.t 72], jO 74 .pick [.t 66, .k (.c (.bool true)), .t 73], jM 75 74, jP 76 75 false (.fa 8) [.t 5], jP 77 75 false (.ld none) [.t 76], jP 78 75 false (.call 67 .fz) [.t 77], jP 79 75 false (.un .not) [.t 78], jO 80 .pick [.t 75, .k (.c (.bool true)), .t 79]] true) (.cn (.t 80) (.sq (.rg [jO 6 .mv [.k (.c (.bool false))]] false) (.rt)) (.skip))) (.sq (.rg [jM 81 1, jO 82 (.fa 7) [.t 5], jO 83 (.ld none) [.t 82], jO 84 (.ia 1) [.t 81, .t 83], jO 85 (.fa 0) [.t 84], jO 86 (.ld none) [.t 85], jM 7 86] false) (.sq (.sq (.rg [jO 87 (.fa 6) [.t 5], jO 88 (.ld none) [.t 87]] false) (.bl 0 (.sq (.rg [jO 90 (.bin .eql) [.t 88, .k (jV 1)], jM 89 90] false) (.cn (.t 89) (.sq (.sq (.rg [jO 91 (.fa 10) [.t 5], jO 92 (.ld none) [.t 91], jO 93 .len [.t 92], jM 94 7, jO 95 .len [.t 94], jO 96 (.bin .neq) [.t 93, .t 95], jM 97 96, jP 98 97 false (.fa 9) [.t 5], jP 99 97 false (.ld none) [.t 98], jP 100 97 false (.bin .neq) [.t 99, .k jN], jO 101 .pick [.t 97, .k (.c (.bool true)), .t 100], jM 102 101, jP 103 102 false (.fa 11) [.t 5], jP 104 102 false (.ld none) [.t 103], jP 105 102 false .len [.t 104], jP 106 102 false (.bin .gtr) [.t 105, .k jN], jO 107 .pick [.t 102, .k (.c (.bool true)), .t 106]] false) (.cn (.t 107) (.sq (.rg [jO 6 .mv [.k (.c (.bool false))]] false) (.rt)) (.skip))) (.sq (.sq (.rg [jO 8 .mv [.k jN]] false) (.bl 1 (.lp (.sq (.sq (.rg [jM 108 8, jM 109 7, jO 110 .len [.t 109], jO 111 (.bin .lss) [.t 108, .t 110]] false) (.cn (.t 111) (.skip) (.ex 1))) (.sq (.bl 2 (.sq (.rg [jO 114 (.fa 10) [.t 5], jO 115 (.ld none) [.t 114], jM 116 8, jO 117 (.ia 3) [.t 115, .t 116], jO 118 (.ld (some 3)) [.t 117], jO 119 (.call 68 .fz) [.t 118], jO 120 (.un .not) [.t 119], jM 121 120, jP 122 121 false (.fa 10) [.t 5], jP 123 121 false (.ld none) [.t 122], jG 124 121 false 8, jP 125 121 false (.ia 3) [.t 123, .t 124], jP 126 121 false (.ld (some 3)) [.t 125], jG 127 121 false 7, jG 128 121 false 8, jP 129 121 false (.ia 1) [.t 127, .t 128], jP 130 121 false (.ld none) [.t 129], jP 131 121 false (.call 69 .fz) [.t 126, .t 130], jP 132 121 false (.un .not) [.t 131], jO 133 .pick [.t 121, .k (.c (.bool true)), .t 132]] true) (.cn (.t 133) (.sq (.rg [jO 6 .mv [.k (.c (.bool false))]] false) (.rt)) (.skip)))) (.rg [jM 112 8, jO 113 (.bin .add) [.t 112, .k (jV 1)], jM 8 113] false)))))) (.sq (.rg [jO 6 .mv [.k (.c (.bool true))]] false) (.rt)))) (.sq (.rg [jO 135 (.bin .eql) [.t 88, .k (jV 2)], jM 134 135] false) (.cn (.t 134) (.sq (.rg [jO 136 (.fa 9) [.t 5], jO 137 (.ld none) [.t 136], jM 138 7, jO 139 .len [.t 138], jO 140 (.bin .sub) [.t 139, .k (jV 1)], jO 141 (.call 31 .fz) [.t 137, .k jN, .t 140], jM 142 141, jP 143 142 true (.fa 10) [.t 5], jP 144 142 true (.ld none) [.t 143], jP 145 142 true .len [.t 144], jP 146 142 true (.bin .eql) [.t 145, .k (jV 1)], jO 147 .pick [.t 142, .t 146, .k (.c (.bool false))], jM 148 147, jP 149 148 true (.fa 10) [.t 5], jP 150 148 true (.ld none) [.t 149], jP 151 148 true (.ia 3) [.t 150, .k jN], jP 152 148 true (.ld (some 3)) [.t 151], jP 153 148 true (.call 68 .fz) [.t 152], jO 154 .pick [.t 148, .t 153, .k (.c (.bool false))], jM 155 154, jP 156 155 true (.fa 10) [.t 5], jP 157 155 true (.ld none) [.t 156], jP 158 155 true (.ia 3) [.t 157, .k jN], jP 159 155 true (.ld (some 3)) [.t 158], jG 160 155 true 7, jP 161 155 true (.fa 9) [.t 5], jP 162 155 true (.ld none) [.t 161], jP 163 155 true (.ia 1) [.t 160, .t 162], jP 164 155 true (.ld none) [.t 163], jP 165 155 true (.call 69 .fz) [.t 159, .t 164], jO 166 .pick [.t 155, .t 165, .k (.c (.bool false))], jM 167 166, jP 168 167 true (.fa 11) [.t 5], jP 169 167 true (.ld none) [.t 168], jP 170 167 true .len [.t 169], jP 171 167 true (.bin .eql) [.t 170, .k jN], jO 172 .pick [.t 167, .t 171, .k (.c (.bool false))], jM 6 172] true) (.rt)) (.sq (.rg [jO 174 (.bin .eql) [.t 88, .k (jV 3)], jM 173 174] false) (.cn (.t 173) (.sq (.sq (.rg [jO 175 (.fa 11) [.t 5], jO 176 (.ld none) [.t 175], jO 177 .len [.t 176], jO 178 (.call 31 .fz) [.t 177, .k (jV 1), .k (jV 64)], jO 179 (.un .not) [.t 178], jM 180 179, jP 181 180 false (.fa 9) [.t 5], jP 182 180 false (.ld none) [.t 181], jP 183 180 false (.bin .neq) [.t 182, .k jN], jO 184 .pick [.t 180, .k (.c (.bool true)), .t 183], jM 185 184, jP 186 185 false (.fa 10) [.t 5], jP 187 185 false (.ld none) [.t 186], jP 188 185 false .len [.t 187], jP 189 185 false (.bin .gtr) [.t 188, .k jN], jO 190 .pick [.t 185, .k (.c (.bool true)), .t 189]] false) (.cn (.t 190) (.sq (.rg [jO 6 .mv [.k (.c (.bool false))]] false) (.rt)) (.skip))) (.sq (.sq (.rg [jO 9 .mv [.k jN]] false) (.bl 3 (.lp (.sq (.sq (.rg [jM 191 9, jO 192 (.fa 11) [.t 5], jO 193 (.ld none) [.t 192], jO 194 .len [.t 193], jO 195 (.bin .lss) [.t 191, .t 194]] false) (.cn (.t 195) (.skip) (.ex 3))) (.sq (.bl 4 (.sq (.rg [jO 198 (.fa 2) [.t 5], jO 199 (.ld none) [.t 198], jO 200 (.fa 11) [.t 5], jO 201 (.ld none) [.t 200], jM 202 9, jO 203 (.ia 2) [.t 201, .t 202], jO 204 (.ld (some 2)) [.t 203], jO 205 (.call 60 .fz) [.t 199, .t 204], jO 206 (.un .not) [.t 205], jM 207 206, jG 208 207 false 9, jP 209 207 false (.bin .gtr) [.t 208, .k jN], jG 210 207 false 209, jP 211 210 true (.fa 11) [.t 5], jP 212 210 true (.ld none) [.t 211], jG 213 210 true 9, jP 214 210 true (.bin .sub) [.t 213, .k (jV 1)], jP 215 210 true (.ia 2) [.t 212, .t 214], jP 216 210 true (.ld (some 2)) [.t 215], jP 217 210 true (.fa 11) [.t 5], jP 218 210 true (.ld none) [.t 217], jG 219 210 true 9, jP 220 210 true (.ia 2) [.t 218, .t 219], jP 221 210 true (.ld (some 2)) [.t 220], jP 222 210 true (.call 70 .fz) [.t 216, .t 221], jP 223 210 true (.un .not) [.t 222], jP 224 207 false .pick [.t 210, .t 223, .k (.c (.bool false))], jO 225 .pick [.t 207, .k (.c (.bool true)), .t 224]] true) (.cn (.t 225) (.sq (.rg [jO 6 .mv [.k (.c (.bool false))]] false) (.rt)) (.skip)))) (.rg [jM 196 9, jO 197 (.bin .add) [.t 196, .k (jV 1)], jM 9 197] false)))))) (.sq (.rg [jO 6 .mv [.k (.c (.bool true))]] false) (.rt)))) (.skip))))))))) (.sq (.rg [jO 6 .mv [.k (.c (.bool false))]] false) (.rt)))))
theorem cf33 : compF Tryz.prog 33 c33 = some ⟨c33, [.t 6], 226⟩ := by kernel_rfl
def c34 : IC := .sq (.rg [jO 2 .mv [.k jN]] false) (.sq (.sq (.rg [jM 3 0] false) (.cn (.t 3) (.sq (.rg [jO 2 .mv [.k (jV (-1))]] false) (.rt)) (.skip))) (.sq (.rg [jO 2 .mv [.k (jV 1)]] false) (.rt)))
theorem cf34 : compF Tryz.prog 34 c34 = some ⟨c34, [.t 2], 4⟩ := by kernel_rfl
def c36 : IC := .sq (.rg [jO 5 (.box (some 12)) [.t 2], jO 6 .mv [.k jN]] false) (.sq (.rg [jM 8 1, jO 9 (.call 44 .fz) [.t 8], jM 7 9] false) (.sq (.bl 0 (.sq (.rg [jM 11 7, jO 12 (.bin .neq) [.t 11, .k jN], jM 10 12] false) (.cn (.t 10) (.sq (.rg [jM 13 7, jM 6 13] false) (.rt)) (.sq (.rg [jM 15 0, jO 16 (.bin .lss) [.t 15, .k (jV 1)], jM 17 16, jG 18 17 false 0, jP 19 17 false (.bin .gtr) [.t 18, .k (jV 5)], jO 20 .pick [.t 17, .k (.c (.bool true)), .t 19], jM 21 20, jG 22 21 false 0, jG 23 21 false 1, jP 24 21 false (.ld (some 12)) [.t 5], jP 25 21 false (.call 72 .fz) [.t 22, .t 23, .t 24], jP 26 21 false (.un .not) [.t 25], jO 27 .pick [.t 21, .k (.c (.bool true)), .t 26], jM 14 27] false) (.cn (.t 14) (.sq (.rg [jO 6 .mv [.k (jV 1)]] false) (.rt)) (.skip)))))) (.sq (.rg [jO 6 .mv [.k jN]] false) (.rt))))
theorem cf36 : compF Tryz.prog 36 c36 = some ⟨c36, [.t 6], 28⟩ := by kernel_rfl
def c44 : IC := .sq (.rg [jO 2 .mv [.k jN]] false) (.sq (.sq (.rg [jM 5 0, jO 6 .len [.t 5], jO 7 (.bin .lss) [.t 6, .k (jV 1)], jM 8 7, jG 9 8 false 0, jP 10 8 false .len [.t 9], jP 11 8 false (.bin .gtr) [.t 10, .k (jV 3)], jO 12 .pick [.t 8, .k (.c (.bool true)), .t 11]] false) (.cn (.t 12) (.sq (.rg [jO 2 .mv [.k (jV 2)]] false) (.rt)) (.skip))) (.sq (.sq (.rg [jM 13 0, ⟨(some 14), none, (.call 86 .fz), [.t 13, .k (.fn 87 [])]⟩] false) (.cn (.t 14) (.sq (.rg [jO 2 .mv [.k (jV 2)]] false) (.rt)) (.skip))) (.sq (.sq (.rg [jM 15 0, jO 16 .len [.t 15], jO 17 .mv [.k jN]] false) (.bl 0 (.lp (.sq (.rg [jO 18 (.bin .lss) [.t 17, .t 16]] false) (.sq (.cn (.t 18) (.skip) (.ex 0)) (.sq (.bl 1 (.sq (.rg [jO 19 (.ia 1) [.t 15, .t 17], jO 20 (.ld (some 1)) [.t 19], jO 4 (.alloc [.z]) [], ⟨none, none, (.st 1), [.t 4, .t 20]⟩] false) (.sq (.rg [jO 21 (.fa 0) [.t 4], jO 22 (.ld none) [.t 21], ⟨(some 23), none, (.call 88 .fz), [.t 22, .k (.fn 89 [])]⟩] false) (.cn (.t 23) (.sq (.rg [jO 2 .mv [.k (jV 10)]] false) (.rt)) (.skip))))) (.rg [jO 24 (.bin .add) [.t 17, .k (jV 1)], jM 17 24] false))))))) (.sq (.rg [jO 2 .mv [.k jN]] false) (.rt)))))
theorem cf44 : compF Tryz.prog 44 c44 = some ⟨c44, [.t 2], 25⟩ := by kernel_rfl
def c45 : IC := .sq (.rg [jO 3 (.box (some 12)) [.t 1]] false) (.sq (.sq (.rg [jO 5 (.fa 6) [.t 3], jO 6 (.ld none) [.t 5]] false) (.bl 0 (.sq (.rg [jO 8 (.bin .eql) [.t 6, .k (jV 1)], jM 7 8] false) (.cn (.t 7) (.rg [jM 9 0, jM 10 0, jO 11 (.fa 0) [.t 10], jO 12 (.fa 1) [.t 11], jO 13 (.ld none) [.t 12], jO 14 (.fa 0) [.t 3], jO 15 (.ld (some 2)) [.t 14], jO 16 (.bsl 2 [jN, jN] [0] 1 true) [.t 15], jO 17 (.app 2) [.t 13, .t 16], jO 18 (.fa 0) [.t 9], jO 19 (.fa 1) [.t 18], ⟨none, none, (.st 1), [.t 19, .t 17]⟩] true) (.sq (.rg [jO 21 (.bin .eql) [.t 6, .k (jV 3)], jM 20 21] false) (.cn (.t 20) (.rg [jM 22 0, jM 23 0, jO 24 (.fa 0) [.t 23], jO 25 (.fa 2) [.t 24], jO 26 (.ld none) [.t 25], jO 27 (.fa 11) [.t 3], jO 28 (.ld none) [.t 27], jO 29 (.app 2) [.t 26, .t 28], jO 30 (.fa 0) [.t 22], jO 31 (.fa 2) [.t 30], ⟨none, none, (.st 1), [.t 31, .t 29]⟩] true) (.skip))))))) (.sq (.rg [jM 32 0, jO 33 (.fa 0) [.t 32], jO 34 (.fa 3) [.t 33], jO 35 (.ld none) [.t 34], jO 36 .len [.t 35], jO 37 .mv [.k jN]] false) (.bl 1 (.lp (.sq (.rg [jO 38 (.bin .lss) [.t 37, .t 36]] false) (.sq (.cn (.t 38) (.skip) (.ex 1)) (.sq (.bl 2 (.sq (.rg [jM 39 37, jM 4 39] false) (.sq (.rg [jO 40 (.ld (some 12)) [.t 3], jM 41 4, jO 42 (.call 90 .fz) [.t 40, .t 41], jO 43 (.bin .geq) [.t 42, .k jN], jM 44 43, jG 45 44 true 0, jP 46 44 true (.fa 0) [.t 45], jP 47 44 true (.fa 3) [.t 46], jP 48 44 true (.ld none) [.t 47], jG 49 44 true 4, jP 50 44 true (.ia 12) [.t 48, .t 49], jP 51 44 true (.fa 6) [.t 50], jP 52 44 true (.ld none) [.t 51], jP 53 44 true (.bin .eql) [.t 52, .k jN], jG 54 44 true 53, jG 55 54 false 0, jP 56 54 false (.fa 0) [.t 55], jP 57 54 false (.fa 3) [.t 56], jP 58 54 false (.ld none) [.t 57], jG 59 54 false 4, jP 60 54 false (.ia 12) [.t 58, .t 59], jP 61 54 false (.fa 3) [.t 60], jP 62 54 false (.ld (some 3)) [.t 61], jP 63 54 false (.fa 3) [.t 3], jP 64 54 false (.ld (some 3)) [.t 63], jP 65 54 false (.call 91 .fz) [.t 62, .t 64], jP 66 54 false (.bin .lss) [.t 65, .k jN], jP 67 44 true .pick [.t 54, .k (.c (.bool true)), .t 66], jO 68 .pick [.t 44, .t 67, .k (.c (.bool false))]] true) (.cn (.t 68) (.rg [jM 69 0, jO 70 (.fa 0) [.t 69], jO 71 (.fa 3) [.t 70], jO 72 (.ld none) [.t 71], jM 73 4, jO 74 (.ld (some 12)) [.t 3], jO 75 (.ia 12) [.t 72, .t 73], ⟨none, none, (.st 12), [.t 75, .t 74]⟩] true) (.skip))))) (.rg [jO 76 (.bin .add) [.t 37, .k (jV 1)], jM 37 76] false))))))))
theorem cf45 : compF Tryz.prog 45 c45 = some ⟨c45, [], 77⟩ := by kernel_rfl
def c47 : IC := .sq (.rg [jO 1 (.box none) [.t 0], jO 2 .mv [.k .z]] false) (.sq (.sq (.rg [jO 6 (.ld none) [.t 1], jO 7 (.fa 0) [.t 6], jO 8 (.fa 1) [.t 7], jO 9 (.ld none) [.t 8], jO 10 (.mkf 95) [.t 1], jO 11 (.call 94 .fz) [.t 9, .t 10], jO 12 (.un .not) [.t 11]] false) (.cn (.t 12) (.sq (.rg [jO 2 .mv [.k .z]] false) (.rt)) (.skip))) (.sq (.rg [jO 13 (.ld none) [.t 1], jO 14 (.fa 0) [.t 13], jO 15 (.fa 0) [.t 14], jO 16 (.ld none) [.t 15], ⟨(some 17), none, (.bld [jN, jN, (.c (.string ⟨#[]⟩))] [(0, 1), (2, 1)]), [.k (jV 4), .t 16]⟩, ⟨(some 18), none, (.bsl 3 [jN, jN, (.c (.string ⟨#[]⟩))] [0] 1 false), [.t 17]⟩, jM 3 18] false) (.sq (.sq (.rg [jO 19 (.ld none) [.t 1], jO 20 (.fa 0) [.t 19], jO 21 (.fa 3) [.t 20], jO 22 (.ld none) [.t 21], jO 23 .len [.t 22], jO 24 .mv [.k jN]] false) (.bl 0 (.lp (.sq (.rg [jO 25 (.bin .lss) [.t 24, .t 23]] false) (.sq (.cn (.t 25) (.skip) (.ex 0)) (.sq (.bl 1 (.sq (.rg [jM 26 24, jO 27 (.ia 12) [.t 22, .t 24], jO 28 (.ld (some 12)) [.t 27], jO 5 (.alloc jZ) [], jM 4 26, ⟨none, none, (.st 12), [.t 5, .t 28]⟩] false) (.rg [jM 29 3, jO 30 (.fa 10) [.t 5], jO 31 (.ld none) [.t 30], jO 32 (.ld (some 12)) [.t 5], jM 33 4, jO 34 (.call 90 .fz) [.t 32, .t 33], jO 35 (.ia 3) [.t 31, .t 34], jO 36 (.ld (some 3)) [.t 35], ⟨(some 37), none, (.bsl 3 [jN, jN, (.c (.string ⟨#[]⟩))] [0] 1 true), [.t 36]⟩, jO 38 (.app 3) [.t 29, .t 37], jM 3 38] true))) (.rg [jO 39 (.bin .add) [.t 24, .k (jV 1)], jM 24 39] false))))))) (.sq (.rg [jM 40 3, jM 2 40] false) (.rt)))))
theorem cf47 : compF Tryz.prog 47 c47 = some ⟨c47, [.t 2], 41⟩ := by kernel_rfl
def c48 : IC := .sq (.rg [jO 2 .mv [.k jN]] false) (.sq (.bl 0 (.sq (.rg [jM 4 0, jO 5 .len [.t 4], jO 6 (.bin .lss) [.t 5, .k (jV 1)], jM 7 6, jG 8 7 false 0, jP 9 7 false .len [.t 8], jP 10 7 false (.bin .gtr) [.t 9, .k (jV 5)], jO 11 .pick [.t 7, .k (.c (.bool true)), .t 10], jM 3 11] false) (.cn (.t 3) (.sq (.rg [jO 2 .mv [.k (jV 2)]] false) (.rt)) (.sq (.rg [jM 13 0, ⟨(some 14), none, (.call 88 .fz), [.t 13, .k (.fn 96 [])]⟩, jM 12 14] false) (.cn (.t 12) (.sq (.rg [jO 2 .mv [.k (jV 1)]] false) (.rt)) (.skip)))))) (.sq (.rg [jO 2 .mv [.k jN]] false) (.rt)))
theorem cf48 : compF Tryz.prog 48 c48 = some ⟨c48, [.t 2], 15⟩ := by kernel_rfl
def c49 : IC := .sq (.rg [jO 6 .mv [.k (.c (.bool false))]] false) (.sq (.sq (.rg [jO 7 .mv [.k (jV 1)]] false) (.bl 0 (.lp (.sq (.sq (.rg [jM 8 7, jM 9 2, jO 10 (.bin .leq) [.t 8, .t 9]] false) (.cn (.t 10) (.skip) (.ex 0))) (.sq (.bl 1 (.sq (.rg [jM 13 0, jM 14 1, jM 15 7, jO 16 (.bld [jN, jN] [(0, 1), (1, 1)]) [.t 14, .t 15], ⟨(some 17), none, (.mlk true [0, 0] (.c (.bool false)) false), [.t 13, .t 16]⟩, jO 18 (.un .not) [.t 17]] false) (.cn (.t 18) (.sq (.rg [jO 6 .mv [.k (.c (.bool false))]] false) (.rt)) (.skip)))) (.rg [jM 11 7, jO 12 (.bin .add) [.t 11, .k (jV 1)], jM 7 12] false)))))) (.sq (.rg [jO 6 .mv [.k (.c (.bool true))]] false) (.rt)))
theorem cf49 : compF Tryz.prog 49 c49 = some ⟨c49, [.t 6], 19⟩ := by kernel_rfl
def c50 : IC := .sq (.rg [jO 4 .mv [.k (.c (.bool false))]] false) (.sq (.sq (.rg [jM 6 0, jO 7 .len [.t 6], jM 8 1, jO 9 .len [.t 8], jO 10 (.bin .neq) [.t 7, .t 9]] false) (.cn (.t 10) (.sq (.rg [jO 4 .mv [.k (.c (.bool false))]] false) (.rt)) (.skip))) (.sq (.sq (.rg [jO 5 .mv [.k jN]] false) (.bl 0 (.lp (.sq (.sq (.rg [jM 11 5, jM 12 0, jO 13 .len [.t 12], jO 14 (.bin .lss) [.t 11, .t 13]] false) (.cn (.t 14) (.skip) (.ex 0))) (.sq (.bl 1 (.sq (.rg [jM 17 0, jM 18 5, jO 19 (.ia 3) [.t 17, .t 18], jO 20 (.ld (some 3)) [.t 19], jM 21 1, jM 22 5, jO 23 (.ia 3) [.t 21, .t 22], jO 24 (.ld (some 3)) [.t 23], jO 25 (.call 97 .fz) [.t 20, .t 24], jO 26 (.un .not) [.t 25]] true) (.cn (.t 26) (.sq (.rg [jO 4 .mv [.k (.c (.bool false))]] false) (.rt)) (.skip)))) (.rg [jM 15 5, jO 16 (.bin .add) [.t 15, .k (jV 1)], jM 5 16] false)))))) (.sq (.rg [jO 4 .mv [.k (.c (.bool true))]] false) (.rt))))
theorem cf50 : compF Tryz.prog 50 c50 = some ⟨c50, [.t 4], 27⟩ := by kernel_rfl
def c51 : IC := .sq (.rg [jO 2 (.box (some 12)) [.t 0], jO 3 (.box (some 12)) [.t 1], jO 4 .mv [.k (.c (.bool false))]] false) (.sq (.rg [jO 5 (.fa 0) [.t 2], jO 6 (.ld (some 2)) [.t 5], jO 7 (.fa 0) [.t 3], jO 8 (.ld (some 2)) [.t 7], jO 9 (.call 58 .fz) [.t 6, .t 8], jM 10 9, jP 11 10 true (.fa 2) [.t 2], jP 12 10 true (.ld none) [.t 11], jP 13 10 true (.fa 2) [.t 3], jP 14 10 true (.ld none) [.t 13], jP 15 10 true (.call 15 .fz) [.t 12, .t 14], jO 16 .pick [.t 10, .t 15, .k (.c (.bool false))], jM 17 16, jP 18 17 true (.fa 3) [.t 2], jP 19 17 true (.ld (some 3)) [.t 18], jP 20 17 true (.fa 3) [.t 3], jP 21 17 true (.ld (some 3)) [.t 20], jP 22 17 true (.call 98 .fz) [.t 19, .t 21], jO 23 .pick [.t 17, .t 22, .k (.c (.bool false))], jM 24 23, jP 25 24 true (.fa 6) [.t 2], jP 26 24 true (.ld none) [.t 25], jP 27 24 true (.fa 6) [.t 3], jP 28 24 true (.ld none) [.t 27], jP 29 24 true (.bin .eql) [.t 26, .t 28], jO 30 .pick [.t 24, .t 29, .k (.c (.bool false))], jM 31 30, jP 32 31 true (.fa 7) [.t 2], jP 33 31 true (.ld none) [.t 32], jP 34 31 true (.fa 7) [.t 3], jP 35 31 true (.ld none) [.t 34], jP 36 31 true (.bin .eql) [.t 33, .t 35], jO 37 .pick [.t 31, .t 36, .k (.c (.bool false))], jM 38 37, jP 39 38 true (.fa 8) [.t 2], jP 40 38 true (.ld none) [.t 39], jP 41 38 true (.fa 8) [.t 3], jP 42 38 true (.ld none) [.t 41], jP 43 38 true (.bin .eql) [.t 40, .t 42], jO 44 .pick [.t 38, .t 43, .k (.c (.bool false))], jM 45 44, jP 46 45 true (.fa 9) [.t 2], jP 47 45 true (.ld none) [.t 46], jP 48 45 true (.fa 9) [.t 3], jP 49 45 true (.ld none) [.t 48], jP 50 45 true (.bin .eql) [.t 47, .t 49], jO 51 .pick [.t 45, .t 50, .k (.c (.bool false))], jM 52 51, jP 53 52 true (.fa 10) [.t 2], jP 54 52 true (.ld none) [.t 53], jP 55 52 true (.fa 10) [.t 3], jP 56 52 true (.ld none) [.t 55], jP 57 52 true (.call 50 .fz) [.t 54, .t 56], jO 58 .pick [.t 52, .t 57, .k (.c (.bool false))], jM 59 58, jP 60 59 true (.fa 11) [.t 2], jP 61 59 true (.ld none) [.t 60], jP 62 59 true (.fa 11) [.t 3], jP 63 59 true (.ld none) [.t 62], jP 64 59 true (.call 99 .fz) [.t 61, .t 63], jO 65 .pick [.t 59, .t 64, .k (.c (.bool false))], jM 4 65] false) (.rt))
theorem cf51 : compF Tryz.prog 51 c51 = some ⟨c51, [.t 4], 66⟩ := by kernel_rfl
def c52 : IC := .sq (.rg [jO 3 (.box (some 2)) [.t 1], jO 4 .mv [.k (.c (.bool false))]] false) (.sq (.rg [jM 5 0, jO 6 (.fa 0) [.t 3], jO 7 (.ld none) [.t 6], jO 8 (.call 100 .fz) [.t 5, .t 7], jM 9 8, jP 10 9 true (.fa 1) [.t 3], jP 11 9 true (.ld none) [.t 10], jP 12 9 true (.bin .geq) [.t 11, .k (jV 1)], jO 13 .pick [.t 9, .t 12, .k (.c (.bool false))], jM 14 13, jP 15 14 true (.fa 1) [.t 3], jP 16 14 true (.ld none) [.t 15], jG 17 14 true 0, jP 18 14 true (.fa 0) [.t 3], jP 19 14 true (.ld none) [.t 18], jP 20 14 true (.ia 1) [.t 17, .t 19], jP 21 14 true (.ld none) [.t 20], jP 22 14 true (.bin .leq) [.t 16, .t 21], jO 23 .pick [.t 14, .t 22, .k (.c (.bool false))], jM 4 23] true) (.rt))
theorem cf52 : compF Tryz.prog 52 c52 = some ⟨c52, [.t 4], 24⟩ := by kernel_rfl
def c53 : IC := .sq (.rg [jO 1 (.box (some 12)) [.t 0], jO 2 (.alloc jZ) []] false) (.sq (.rg [jO 3 (.fa 2) [.t 1], jO 4 (.ld none) [.t 3], jO 5 (.call 101 (.own 1)) [.t 4], jO 6 (.fa 10) [.t 1], jO 7 (.ld none) [.t 6], jO 8 (.call 102 (.own 3)) [.t 7], jO 9 (.fa 11) [.t 1], jO 10 (.ld none) [.t 9], jO 11 (.call 74 (.own 2)) [.t 10], jO 12 (.fa 2) [.t 1], ⟨none, none, (.st 1), [.t 12, .t 5]⟩, jO 13 (.fa 10) [.t 1], ⟨none, none, (.st 1), [.t 13, .t 8]⟩, jO 14 (.fa 11) [.t 1], ⟨none, none, (.st 1), [.t 14, .t 11]⟩] true) (.sq (.rg [jO 15 (.ld (some 12)) [.t 1], ⟨none, none, (.st 12), [.t 2, .t 15]⟩] false) (.rt)))
theorem cf53 : compF Tryz.prog 53 c53 = some ⟨c53, [.c 2 (some 12)], 16⟩ := by kernel_rfl
def c54 : IC := .sq (.rg [jO 1 (.box (some 12)) [.t 0], jO 2 (.alloc jZ) []] false) (.sq (.rg [jO 3 .mv [.k .z]] false) (.sq (.re [jO 4 (.fa 2) [.t 1], jO 5 (.ld none) [.t 4], jO 6 (.call 55 (.own 1)) [.t 5], jO 7 (.fa 10) [.t 1], jO 8 (.ld none) [.t 7], jO 9 (.call 103 .fz) [.t 8], jM 10 3, jO 11 (.fa 11) [.t 1], jO 12 (.ld none) [.t 11], jO 13 (.app 2) [.t 10, .t 12], jO 14 (.fa 2) [.t 1], ⟨none, none, (.st 1), [.t 14, .t 6]⟩, jO 15 (.fa 10) [.t 1], ⟨none, none, (.st 1), [.t 15, .t 9]⟩, jO 16 (.fa 11) [.t 1], ⟨none, none, (.st 1), [.t 16, .t 13]⟩] [[], [], [], [2], [2], [], [], [2, 5], [2, 5], [], [5, 9], [], [], [], [], []]) (.sq (.rg [jO 17 (.ld (some 12)) [.t 1], ⟨none, none, (.st 12), [.t 2, .t 17]⟩] false) (.rt))))
theorem cf54 : compF Tryz.prog 54 c54 = some ⟨c54, [.c 2 (some 12)], 18⟩ := by kernel_rfl
def c55 : IC := .sq (.rg [jO 2 .mv [.k .z]] false) (.sq (.rg [jO 3 .mv [.k .z]] false) (.sq (.rg [jM 4 3, jM 5 0, jO 6 (.app 1) [.t 4, .t 5], jM 2 6] false) (.rt)))
theorem cf55 : compF Tryz.prog 55 c55 = some ⟨c55, [.t 2], 7⟩ := by kernel_rfl
def c56 : IC := .sq (.rg [jO 6 .mv [.k (.c (.bool false))]] false) (.sq (.rg [jM 7 0, jM 8 1, jO 9 (.bin .geq) [.t 7, .t 8], jM 10 9, jG 11 10 true 0, jG 12 10 true 2, jP 13 10 true (.bin .leq) [.t 11, .t 12], jO 14 .pick [.t 10, .t 13, .k (.c (.bool false))], jM 6 14] false) (.rt))
theorem cf56 : compF Tryz.prog 56 c56 = some ⟨c56, [.t 6], 15⟩ := by kernel_rfl
def c57 : IC := .sq (.rg [jO 2 .mv [.k jN]] false) (.sq (.sq (.rg [jM 4 0, jO 5 .len [.t 4], jO 6 (.call 31 .fz) [.t 5, .k (jV 1), .k (jV 5)], jO 7 (.un .not) [.t 6]] false) (.cn (.t 7) (.sq (.rg [jO 2 .mv [.k (jV 2)]] false) (.rt)) (.skip))) (.sq (.sq (.rg [jO 3 .mv [.k jN]] false) (.bl 0 (.lp (.sq (.sq (.rg [jM 8 3, jM 9 0, jO 10 .len [.t 9], jO 11 (.bin .lss) [.t 8, .t 10]] false) (.cn (.t 11) (.skip) (.ex 0))) (.sq (.bl 1 (.sq (.rg [jM 14 0, jM 15 3, jO 16 (.ia 1) [.t 14, .t 15], jO 17 (.ld none) [.t 16], jO 18 (.call 31 .fz) [.t 17, .k jN, .k (jV 1073741824)], jO 19 (.un .not) [.t 18]] false) (.cn (.t 19) (.sq (.rg [jO 2 .mv [.k (jV 1)]] false) (.rt)) (.skip)))) (.rg [jM 12 3, jO 13 (.bin .add) [.t 12, .k (jV 1)], jM 3 13] false)))))) (.sq (.rg [jO 2 .mv [.k jN]] false) (.rt))))
theorem cf57 : compF Tryz.prog 57 c57 = some ⟨c57, [.t 2], 20⟩ := by kernel_rfl
def c58 : IC := .sq (.rg [jO 2 (.box (some 2)) [.t 0], jO 3 (.box (some 2)) [.t 1], jO 4 .mv [.k (.c (.bool false))]] false) (.sq (.rg [jO 5 (.fa 0) [.t 2], jO 6 (.ld none) [.t 5], jO 7 (.fa 0) [.t 3], jO 8 (.ld none) [.t 7], jO 9 (.bin .eql) [.t 6, .t 8], jM 10 9, jP 11 10 true (.fa 1) [.t 2], jP 12 10 true (.ld none) [.t 11], jP 13 10 true (.fa 1) [.t 3], jP 14 10 true (.ld none) [.t 13], jP 15 10 true (.bin .eql) [.t 12, .t 14], jO 16 .pick [.t 10, .t 15, .k (.c (.bool false))], jM 4 16] false) (.rt))
theorem cf58 : compF Tryz.prog 58 c58 = some ⟨c58, [.t 4], 17⟩ := by kernel_rfl
def c59 : IC := .sq (.rg [jO 3 (.box (some 2)) [.t 1], jO 4 .mv [.k (.c (.bool false))]] false) (.sq (.sq (.rg [jO 5 .mv [.k jN]] false) (.bl 0 (.lp (.sq (.sq (.rg [jM 6 5, jM 7 0, jO 8 .len [.t 7], jO 9 (.bin .lss) [.t 6, .t 8]] false) (.cn (.t 9) (.skip) (.ex 0))) (.sq (.bl 1 (.sq (.rg [jM 12 0, jM 13 5, jO 14 (.ia 12) [.t 12, .t 13], jO 15 (.fa 0) [.t 14], jO 16 (.ld (some 2)) [.t 15], jO 17 (.ld (some 2)) [.t 3], jO 18 (.call 58 .fz) [.t 16, .t 17]] true) (.cn (.t 18) (.sq (.rg [jO 4 .mv [.k (.c (.bool true))]] false) (.rt)) (.skip)))) (.rg [jM 10 5, jO 11 (.bin .add) [.t 10, .k (jV 1)], jM 5 11] false)))))) (.sq (.rg [jO 4 .mv [.k (.c (.bool false))]] false) (.rt)))
theorem cf59 : compF Tryz.prog 59 c59 = some ⟨c59, [.t 4], 19⟩ := by kernel_rfl
def c60 : IC := .sq (.rg [jO 3 (.box (some 2)) [.t 1], jO 4 .mv [.k (.c (.bool false))]] false) (.sq (.rg [jO 5 (.fa 0) [.t 3], jO 6 (.ld none) [.t 5], jM 7 0, jO 8 .len [.t 7], jO 9 (.bin .sub) [.t 8, .k (jV 1)], jO 10 (.call 31 .fz) [.t 6, .k jN, .t 9], jM 11 10, jP 12 11 true (.fa 1) [.t 3], jP 13 11 true (.ld none) [.t 12], jP 14 11 true (.bin .geq) [.t 13, .k (jV 1)], jO 15 .pick [.t 11, .t 14, .k (.c (.bool false))], jM 16 15, jP 17 16 true (.fa 1) [.t 3], jP 18 16 true (.ld none) [.t 17], jG 19 16 true 0, jP 20 16 true (.fa 0) [.t 3], jP 21 16 true (.ld none) [.t 20], jP 22 16 true (.ia 1) [.t 19, .t 21], jP 23 16 true (.ld none) [.t 22], jP 24 16 true (.bin .leq) [.t 18, .t 23], jO 25 .pick [.t 16, .t 24, .k (.c (.bool false))], jM 4 25] true) (.rt))
theorem cf60 : compF Tryz.prog 60 c60 = some ⟨c60, [.t 4], 26⟩ := by kernel_rfl
def c61 : IC := .sq (.rg [jO 2 .mv [.k jN]] false) (.bl 0 (.lp (.sq (.sq (.rg [jM 3 2, jM 4 0, jO 5 .len [.t 4], jO 6 (.bin .lss) [.t 3, .t 5]] false) (.cn (.t 6) (.skip) (.ex 0))) (.sq (.bl 1 (.rg [jM 9 0, jM 10 2, jO 11 (.ia 1) [.t 9, .t 10], ⟨none, none, (.st 1), [.t 11, .k (jV (-7777))]⟩] false)) (.rg [jM 7 2, jO 8 (.bin .add) [.t 7, .k (jV 1)], jM 2 8] false)))))
theorem cf61 : compF Tryz.prog 61 c61 = some ⟨c61, [], 12⟩ := by kernel_rfl
def c62 : IC := .sq (.rg [jO 2 .mv [.k jN]] false) (.bl 0 (.lp (.sq (.sq (.rg [jM 3 2, jM 4 0, jO 5 .len [.t 4], jO 6 (.bin .lss) [.t 3, .t 5]] false) (.cn (.t 6) (.skip) (.ex 0))) (.sq (.bl 1 (.rg [jM 9 0, jM 10 2, ⟨(some 11), none, (.bld [jN, jN, (.c (.string ⟨#[]⟩))] [(0, 1), (1, 1)]), [.k (jV 9), .k (jV (-7))]⟩, jO 12 (.ia 3) [.t 9, .t 10], ⟨none, none, (.st 3), [.t 12, .t 11]⟩] false)) (.rg [jM 7 2, jO 8 (.bin .add) [.t 7, .k (jV 1)], jM 2 8] false)))))
theorem cf62 : compF Tryz.prog 62 c62 = some ⟨c62, [], 13⟩ := by kernel_rfl
def c63 : IC := .sq (.rg [jO 4 .mv [.k .z]] false) (.sq (.rg [jO 5 .mv [.k jN]] false) (.sq (.bl 0 (.lp (.sq (.sq (.rg [jM 7 5, jM 8 0, jO 9 .len [.t 8], jO 10 (.bin .lss) [.t 7, .t 9], jM 11 10, jG 12 11 true 0, jG 13 11 true 5, jP 14 11 true (.ia 1) [.t 12, .t 13], jP 15 11 true (.ld none) [.t 14], jG 16 11 true 1, jP 17 11 true (.bin .lss) [.t 15, .t 16], jO 18 .pick [.t 11, .t 17, .k (.c (.bool false))]] false) (.cn (.t 18) (.skip) (.ex 0))) (.bl 1 (.rg [jM 19 5, jO 20 (.bin .add) [.t 19, .k (jV 1)], jM 5 20] false))))) (.sq (.sq (.rg [jM 21 5, jM 22 0, jO 23 .len [.t 22], jO 24 (.bin .lss) [.t 21, .t 23], jM 25 24, jG 26 25 true 0, jG 27 25 true 5, jP 28 25 true (.ia 1) [.t 26, .t 27], jP 29 25 true (.ld none) [.t 28], jG 30 25 true 1, jP 31 25 true (.bin .eql) [.t 29, .t 30], jO 32 .pick [.t 25, .t 31, .k (.c (.bool false))]] false) (.cn (.t 32) (.sq (.rg [jM 33 0, jM 4 33] false) (.rt)) (.skip))) (.sq (.rg [jO 6 .mv [.k .z]] false) (.sq (.rg [jM 34 6, jM 35 0, jM 36 5, jO 37 (.slc 1 false true) [.t 35, .t 36], jO 38 (.app 1) [.t 34, .t 37], jM 39 1, ⟨(some 40), none, (.bsl 1 [(.c (.string ⟨#[]⟩))] [0] 1 true), [.t 39]⟩, jO 41 (.app 1) [.t 38, .t 40], jM 6 41] false) (.sq (.rg [jM 42 6, jM 43 0, jM 44 5, jO 45 (.slc 1 true false) [.t 43, .t 44], jO 46 (.app 1) [.t 42, .t 45], jM 4 46] false) (.rt)))))))
theorem cf63 : compF Tryz.prog 63 c63 = some ⟨c63, [.t 4], 47⟩ := by kernel_rfl
def c64 : IC := .sq (.rg [jO 8 .mv [.k .z]] false) (.sq (.rg [jO 9 .mv [.k (.c (.bool false))]] false) (.sq (.rg [jM 19 0, ⟨(some 20), none, (.mks 8 [jN, jN, (.c (.string ⟨#[]⟩)), jN, jN, jN, jN, jN] false), [.t 19, .t 19]⟩, jM 10 20] false) (.sq (.sq (.rg [jO 11 .mv [.k jN]] false) (.bl 0 (.lp (.sq (.sq (.rg [jM 21 11, jM 22 3, jO 23 .len [.t 22], jO 24 (.bin .lss) [.t 21, .t 23]] false) (.cn (.t 24) (.skip) (.ex 0))) (.sq (.bl 1 (.sq (.rg [jM 27 3, jM 28 11, jO 29 (.ia 12) [.t 27, .t 28], jO 30 (.ld (some 12)) [.t 29], jO 12 (.alloc jZ) [], ⟨none, none, (.st 12), [.t 12, .t 30]⟩] false) (.sq (.sq (.rg [jO 31 (.fa 7) [.t 12], jO 32 (.ld none) [.t 31], jM 33 1, jO 34 (.bin .neq) [.t 32, .t 33], jM 35 34, jP 36 35 false (.fa 8) [.t 12], jP 37 35 false (.ld none) [.t 36], jG 38 35 false 2, jP 39 35 false (.bin .neq) [.t 37, .t 38], jO 40 .pick [.t 35, .k (.c (.bool true)), .t 39]] false) (.cn (.t 40) (.ex 1) (.skip))) (.sq (.rg [jO 41 (.fa 6) [.t 12], jO 42 (.ld none) [.t 41]] false) (.bl 2 (.sq (.rg [jO 44 (.bin .eql) [.t 42, .k (jV 1)], jM 43 44] false) (.cn (.t 43) (.sq (.rg [jO 13 .mv [.k (.c (.bool false))]] false) (.sq (.sq (.rg [jO 14 .mv [.k jN]] false) (.bl 3 (.lp (.sq (.sq (.rg [jM 45 14, jM 46 3, jO 47 .len [.t 46], jO 48 (.bin .lss) [.t 45, .t 47]] false) (.cn (.t 48) (.skip) (.ex 3))) (.sq (.bl 4 (.sq (.sq (.rg [jM 51 3, jM 52 14, jO 53 (.ia 12) [.t 51, .t 52], jO 54 (.fa 6) [.t 53], jO 55 (.ld none) [.t 54], jO 56 (.bin .neq) [.t 55, .k (jV 3)], jM 57 56, jG 58 57 false 3, jG 59 57 false 14, jP 60 57 false (.ia 12) [.t 58, .t 59], jP 61 57 false (.fa 7) [.t 60], jP 62 57 false (.ld none) [.t 61], jG 63 57 false 1, jP 64 57 false (.bin .neq) [.t 62, .t 63], jO 65 .pick [.t 57, .k (.c (.bool true)), .t 64], jM 66 65, jG 67 66 false 3, jG 68 66 false 14, jP 69 66 false (.ia 12) [.t 67, .t 68], jP 70 66 false (.fa 8) [.t 69], jP 71 66 false (.ld none) [.t 70], jG 72 66 false 2, jP 73 66 false (.bin .neq) [.t 71, .t 72], jO 74 .pick [.t 66, .k (.c (.bool true)), .t 73]] false) (.cn (.t 74) (.ex 4) (.skip))) (.sq (.rg [jO 15 .mv [.k jN]] false) (.bl 5 (.lp (.sq (.sq (.rg [jM 75 15, jM 76 3, jM 77 14, jO 78 (.ia 12) [.t 76, .t 77], jO 79 (.fa 11) [.t 78], jO 80 (.ld none) [.t 79], jO 81 .len [.t 80], jO 82 (.bin .lss) [.t 75, .t 81]] false) (.cn (.t 82) (.skip) (.ex 5))) (.sq (.bl 6 (.rg [jM 85 13, jM 86 85, jG 87 86 false 3, jG 88 86 false 14, jP 89 86 false (.ia 12) [.t 87, .t 88], jP 90 86 false (.fa 11) [.t 89], jP 91 86 false (.ld none) [.t 90], jG 92 86 false 15, jP 93 86 false (.ia 2) [.t 91, .t 92], jP 94 86 false (.ld (some 2)) [.t 93], jP 95 86 false (.fa 0) [.t 12], jP 96 86 false (.ld (some 2)) [.t 95], jP 97 86 false (.call 58 .fz) [.t 94, .t 96], jO 98 .pick [.t 86, .k (.c (.bool true)), .t 97], jM 13 98] true)) (.rg [jM 83 15, jO 84 (.bin .add) [.t 83, .k (jV 1)], jM 15 84] false)))))))) (.rg [jM 49 14, jO 50 (.bin .add) [.t 49, .k (jV 1)], jM 14 50] false)))))) (.sq (.rg [jM 99 9, jM 100 99, jG 101 100 false 13, jP 102 100 false (.un .not) [.t 101], jO 103 .pick [.t 100, .k (.c (.bool true)), .t 102], jM 9 103] false) (.sq (.rg [jO 16 .mv [.k jN]] false) (.bl 7 (.lp (.sq (.sq (.rg [jM 104 16, jM 105 0, jO 106 (.bin .lss) [.t 104, .t 105]] false) (.cn (.t 106) (.skip) (.ex 7))) (.sq (.bl 8 (.rb [jM 109 10, jM 110 16, jO 111 (.ia 8) [.t 109, .t 110], jO 112 (.fa 10) [.t 12], jO 113 (.ld none) [.t 112], jM 114 16, jO 115 (.ia 3) [.t 113, .t 114], jO 116 (.ld (some 3)) [.t 115], jO 117 (.ld (some 12)) [.t 12]] (jO 118 (.rcall 104) [.t 111, .t 116, .t 117]) [])) (.rg [jM 107 16, jO 108 (.bin .add) [.t 107, .k (jV 1)], jM 16 108] false))))))))) (.sq (.rg [jO 120 (.bin .eql) [.t 42, .k (jV 2)], jM 119 120] false) (.cn (.t 119) (.rb [jM 121 10, jO 122 (.fa 9) [.t 12], jO 123 (.ld none) [.t 122], jO 124 (.ia 8) [.t 121, .t 123], jO 125 (.fa 10) [.t 12], jO 126 (.ld none) [.t 125], jO 127 (.ia 3) [.t 126, .k jN], jO 128 (.ld (some 3)) [.t 127], jO 129 (.ld (some 12)) [.t 12]] (jO 130 (.rcall 104) [.t 124, .t 128, .t 129]) []) (.skip)))))))))) (.rg [jM 25 11, jO 26 (.bin .add) [.t 25, .k (jV 1)], jM 11 26] false)))))) (.sq (.sq (.rg [jM 131 9, jO 132 (.un .not) [.t 131]] false) (.cn (.t 132) (.sq (.rg [jO 8 .mv [.k .z]] false) (.rt)) (.skip))) (.sq (.rg [jM 133 2, ⟨(some 134), none, (.bld [jN, jN, (.c (.string ⟨#[]⟩))] [(0, 1), (2, 1)]), [.k (jV 4), .t 133]⟩, ⟨(some 135), none, (.bsl 3 [jN, jN, (.c (.string ⟨#[]⟩))] [0] 1 false), [.t 134]⟩, jM 17 135] false) (.sq (.sq (.rg [jO 18 .mv [.k jN]] false) (.bl 9 (.lp (.sq (.sq (.rg [jM 136 18, jM 137 0, jO 138 (.bin .lss) [.t 136, .t 137]] false) (.cn (.t 138) (.skip) (.ex 9))) (.sq (.bl 10 (.rg [jM 141 17, jM 142 10, jM 143 18, jO 144 (.ia 8) [.t 142, .t 143], jO 145 (.fa 0) [.t 144], jO 146 (.ld (some 3)) [.t 145], ⟨(some 147), none, (.bsl 3 [jN, jN, (.c (.string ⟨#[]⟩))] [0] 1 true), [.t 146]⟩, jO 148 (.app 3) [.t 141, .t 147], jM 17 148] false)) (.rg [jM 139 18, jO 140 (.bin .add) [.t 139, .k (jV 1)], jM 18 140] false)))))) (.sq (.rg [jM 149 17, jM 8 149] false) (.rt))))))))
theorem cf64 : compF Tryz.prog 64 c64 = some ⟨c64, [.t 8], 150⟩ := by kernel_rfl
def c65 : IC := .sq (.rg [jO 2 .mv [.k (.c (.bool false))]] false) (.sq (.sq (.rg [jO 3 .mv [.k jN]] false) (.bl 0 (.lp (.sq (.sq (.rg [jM 4 3, jM 5 0, jO 6 .len [.t 5], jO 7 (.bin .lss) [.t 4, .t 6]] false) (.cn (.t 7) (.skip) (.ex 0))) (.sq (.bl 1 (.sq (.rg [jM 10 0, jM 11 3, jO 12 (.ia 3) [.t 10, .t 11], jO 13 (.fa 2) [.t 12], jO 14 (.ld none) [.t 13], jO 15 .slen [.t 14], jO 16 (.bin .gtr) [.t 15, .k (jV 300)]] false) (.cn (.t 16) (.sq (.rg [jO 2 .mv [.k (.c (.bool true))]] false) (.rt)) (.skip)))) (.rg [jM 8 3, jO 9 (.bin .add) [.t 8, .k (jV 1)], jM 3 9] false)))))) (.sq (.rg [jO 2 .mv [.k (.c (.bool false))]] false) (.rt)))
theorem cf65 : compF Tryz.prog 65 c65 = some ⟨c65, [.t 2], 17⟩ := by kernel_rfl
def c66 : IC := .sq (.rg [jO 1 (.box (some 3)) [.t 0], jO 2 .mv [.k (.c (.bool false))]] false) (.sq (.rg [jO 3 (.fa 0) [.t 1], jO 4 (.ld none) [.t 3], jO 5 (.call 31 .fz) [.t 4, .k jN, .k (jV 1099511627776)], jM 6 5, jP 7 6 true (.fa 1) [.t 1], jP 8 6 true (.ld none) [.t 7], jP 9 6 true (.call 31 .fz) [.t 8, .k jN, .k (jV 65536)], jO 10 .pick [.t 6, .t 9, .k (.c (.bool false))], jM 11 10, jP 12 11 true (.fa 2) [.t 1], jP 13 11 true (.ld none) [.t 12], jP 14 11 true (.call 31 .fz) [.t 13, .k jN, .k (jV 4)], jO 15 .pick [.t 11, .t 14, .k (.c (.bool false))], jM 2 15] false) (.rt))
theorem cf66 : compF Tryz.prog 66 c66 = some ⟨c66, [.t 2], 16⟩ := by kernel_rfl
def c67 : IC := .sq (.rg [jO 2 .mv [.k (.c (.bool false))]] false) (.sq (.rg [jM 3 0, jO 4 .slen [.t 3], jO 5 (.call 31 .fz) [.t 4, .k (jV 1), .k (jV 12)], jM 2 5] false) (.rt))
theorem cf67 : compF Tryz.prog 67 c67 = some ⟨c67, [.t 2], 6⟩ := by kernel_rfl
def c68 : IC := .sq (.rg [jO 1 (.box (some 3)) [.t 0], jO 2 .mv [.k (.c (.bool false))]] false) (.sq (.rg [jO 3 (.ld (some 3)) [.t 1], jO 4 (.call 105 .fz) [.t 3], jM 5 4, jP 6 5 true (.fa 0) [.t 1], jP 7 5 true (.ld none) [.t 6], jP 8 5 true (.bin .neq) [.t 7, .k (jV 3)], jG 9 5 true 8, jP 10 9 false (.fa 1) [.t 1], jP 11 9 false (.ld none) [.t 10], jP 12 9 false (.call 31 .fz) [.t 11, .k (jV (-2147483648)), .k (jV 2147483648)], jP 13 5 true .pick [.t 9, .k (.c (.bool true)), .t 12], jO 14 .pick [.t 5, .t 13, .k (.c (.bool false))], jM 2 14] false) (.rt))
theorem cf68 : compF Tryz.prog 68 c68 = some ⟨c68, [.t 2], 15⟩ := by kernel_rfl
def c69 : IC := .sq (.rg [jO 2 (.box (some 3)) [.t 0], jO 4 .mv [.k (.c (.bool false))]] false) (.sq (.rg [jM 5 1, jO 6 (.call 32 .fz) [.t 5], jM 7 6, jP 8 7 true (.ld (some 3)) [.t 2], jP 9 7 true (.call 105 .fz) [.t 8], jO 10 .pick [.t 7, .t 9, .k (.c (.bool false))], jM 11 10, jP 12 11 true (.fa 0) [.t 2], jP 13 11 true (.ld none) [.t 12], jG 14 11 true 1, jP 15 11 true (.bin .eql) [.t 13, .t 14], jG 16 11 true 15, jP 17 16 false (.fa 0) [.t 2], jP 18 16 false (.ld none) [.t 17], jP 19 16 false (.bin .eql) [.t 18, .k (jV 1)], jP 20 11 true .pick [.t 16, .k (.c (.bool true)), .t 19], jO 21 .pick [.t 11, .t 20, .k (.c (.bool false))], jM 4 21] false) (.rt))
theorem cf69 : compF Tryz.prog 69 c69 = some ⟨c69, [.t 4], 22⟩ := by kernel_rfl
def c70 : IC := .sq (.rg [jO 2 (.box (some 2)) [.t 0], jO 3 (.box (some 2)) [.t 1], jO 4 .mv [.k (.c (.bool false))]] false) (.sq (.rg [jO 5 (.fa 0) [.t 2], jO 6 (.ld none) [.t 5], jO 7 (.fa 0) [.t 3], jO 8 (.ld none) [.t 7], jO 9 (.bin .lss) [.t 6, .t 8], jM 10 9, jP 11 10 false (.fa 0) [.t 2], jP 12 10 false (.ld none) [.t 11], jP 13 10 false (.fa 0) [.t 3], jP 14 10 false (.ld none) [.t 13], jP 15 10 false (.bin .eql) [.t 12, .t 14], jG 16 10 false 15, jP 17 16 true (.fa 1) [.t 2], jP 18 16 true (.ld none) [.t 17], jP 19 16 true (.fa 1) [.t 3], jP 20 16 true (.ld none) [.t 19], jP 21 16 true (.bin .lss) [.t 18, .t 20], jP 22 10 false .pick [.t 16, .t 21, .k (.c (.bool false))], jO 23 .pick [.t 10, .k (.c (.bool true)), .t 22], jM 4 23] false) (.rt))
theorem cf70 : compF Tryz.prog 70 c70 = some ⟨c70, [.t 4], 24⟩ := by kernel_rfl
def c72 : IC := .sq (.rg [jO 5 (.box (some 12)) [.t 2], jO 6 .mv [.k (.c (.bool false))]] false) (.sq (.sq (.rg [jM 8 0, jO 9 (.ld (some 12)) [.t 5], jO 10 (.call 113 .fz) [.t 8, .t 9], jO 11 (.un .not) [.t 10], jM 12 11, jP 13 12 false (.fa 7) [.t 5], jP 14 12 false (.ld none) [.t 13], jP 15 12 false (.bin .lss) [.t 14, .k jN], jO 16 .pick [.t 12, .k (.c (.bool true)), .t 15], jM 17 16, jP 18 17 false (.fa 7) [.t 5], jP 19 17 false (.ld none) [.t 18], jG 20 17 false 1, jP 21 17 false .len [.t 20], jP 22 17 false (.bin .geq) [.t 19, .t 21], jO 23 .pick [.t 17, .k (.c (.bool true)), .t 22], jM 24 23, jP 25 24 false (.fa 8) [.t 5], jP 26 24 false (.ld none) [.t 25], jP 27 24 false (.call 106 .fz) [.t 26], jP 28 24 false (.un .not) [.t 27], jO 29 .pick [.t 24, .k (.c (.bool true)), .t 28]] false) (.cn (.t 29) (.sq (.rg [jO 6 .mv [.k (.c (.bool false))]] false) (.rt)) (.skip))) (.sq (.rg [jM 30 1, jO 31 (.fa 7) [.t 5], jO 32 (.ld none) [.t 31], jO 33 (.ia 1) [.t 30, .t 32], jO 34 (.fa 0) [.t 33], jO 35 (.ld none) [.t 34], jM 7 35] false) (.sq (.sq (.rg [jO 36 (.fa 6) [.t 5], jO 37 (.ld none) [.t 36]] false) (.bl 0 (.sq (.rg [jO 39 (.bin .eql) [.t 37, .k (jV 1)], jM 38 39] false) (.cn (.t 38) (.sq (.rg [jO 40 (.fa 10) [.t 5], jO 41 (.ld none) [.t 40], jM 42 7, jO 43 (.call 114 .fz) [.t 41, .t 42], jM 44 43, jP 45 44 true (.fa 9) [.t 5], jP 46 44 true (.ld none) [.t 45], jP 47 44 true (.bin .eql) [.t 46, .k jN], jO 48 .pick [.t 44, .t 47, .k (.c (.bool false))], jM 49 48, jP 50 49 true (.fa 11) [.t 5], jP 51 49 true (.ld none) [.t 50], jP 52 49 true .len [.t 51], jP 53 49 true (.bin .eql) [.t 52, .k jN], jO 54 .pick [.t 49, .t 53, .k (.c (.bool false))], jM 6 54] false) (.rt)) (.sq (.rg [jO 56 (.bin .eql) [.t 37, .k (jV 2)], jM 55 56] false) (.cn (.t 55) (.sq (.rg [jO 57 (.fa 9) [.t 5], jO 58 (.ld none) [.t 57], jO 59 (.bin .geq) [.t 58, .k jN], jM 60 59, jP 61 60 true (.fa 9) [.t 5], jP 62 60 true (.ld none) [.t 61], jG 63 60 true 7, jP 64 60 true .len [.t 63], jP 65 60 true (.bin .lss) [.t 62, .t 64], jO 66 .pick [.t 60, .t 65, .k (.c (.bool false))], jM 67 66, jP 68 67 true (.fa 10) [.t 5], jP 69 67 true (.ld none) [.t 68], jG 70 67 true 7, jP 71 67 true (.fa 9) [.t 5], jP 72 67 true (.ld none) [.t 71], jP 73 67 true (.fa 9) [.t 5], jP 74 67 true (.ld none) [.t 73], jP 75 67 true (.bin .add) [.t 74, .k (jV 1)], jP 76 67 true (.slc 1 true true) [.t 70, .t 72, .t 75], jP 77 67 true (.call 114 .fz) [.t 69, .t 76], jO 78 .pick [.t 67, .t 77, .k (.c (.bool false))], jM 79 78, jP 80 79 true (.fa 11) [.t 5], jP 81 79 true (.ld none) [.t 80], jP 82 79 true .len [.t 81], jP 83 79 true (.bin .eql) [.t 82, .k jN], jO 84 .pick [.t 79, .t 83, .k (.c (.bool false))], jM 6 84] true) (.rt)) (.sq (.rg [jO 86 (.bin .eql) [.t 37, .k (jV 3)], jM 85 86] false) (.cn (.t 85) (.sq (.rg [jO 87 (.fa 11) [.t 5], jO 88 (.ld none) [.t 87], jO 89 .len [.t 88], jO 90 (.bin .geq) [.t 89, .k (jV 1)], jM 91 90, jP 92 91 true (.fa 11) [.t 5], jP 93 91 true (.ld none) [.t 92], jP 94 91 true .len [.t 93], jP 95 91 true (.bin .leq) [.t 94, .k (jV 64)], jO 96 .pick [.t 91, .t 95, .k (.c (.bool false))], jM 97 96, jP 98 97 true (.fa 2) [.t 5], jP 99 97 true (.ld none) [.t 98], jP 100 97 true (.fa 11) [.t 5], jP 101 97 true (.ld none) [.t 100], jP 102 97 true (.call 115 .fz) [.t 99, .t 101], jO 103 .pick [.t 97, .t 102, .k (.c (.bool false))], jM 104 103, jP 105 104 true (.fa 9) [.t 5], jP 106 104 true (.ld none) [.t 105], jP 107 104 true (.bin .eql) [.t 106, .k jN], jO 108 .pick [.t 104, .t 107, .k (.c (.bool false))], jM 109 108, jP 110 109 true (.fa 10) [.t 5], jP 111 109 true (.ld none) [.t 110], jP 112 109 true .len [.t 111], jP 113 109 true (.bin .eql) [.t 112, .k jN], jO 114 .pick [.t 109, .t 113, .k (.c (.bool false))], jM 6 114] false) (.rt)) (.skip))))))))) (.sq (.rg [jO 6 .mv [.k (.c (.bool false))]] false) (.rt)))))
theorem cf72 : compF Tryz.prog 72 c72 = some ⟨c72, [.t 6], 115⟩ := by kernel_rfl
def c74 : IC := .sq (.rg [jO 2 .mv [.k .z]] false) (.sq (.sq (.rg [jM 3 0, jO 4 (.nilq 0 false) [.t 3]] false) (.cn (.t 4) (.sq (.rg [jO 2 .mv [.k .z]] false) (.rt)) (.skip))) (.sq (.rg [jO 5 (.bsl 2 [jN, jN] [] 0 true) [], jM 6 0, jO 7 (.app 2) [.t 5, .t 6], jM 2 7] false) (.rt)))
theorem cf74 : compF Tryz.prog 74 c74 = some ⟨c74, [.t 2], 8⟩ := by kernel_rfl
def c80 : IC := .sq (.rg [jO 2 (.box (some 2)) [.t 0], jO 3 (.box (some 2)) [.t 1], jO 4 .mv [.k jN]] false) (.sq (.rg [jO 5 (.fa 0) [.t 2], jO 6 (.ld none) [.t 5], jO 7 (.fa 0) [.t 3], jO 8 (.ld none) [.t 7], jO 9 (.call 119 .fz) [.t 6, .t 8], jO 10 (.fa 1) [.t 2], jO 11 (.ld none) [.t 10], jO 12 (.fa 1) [.t 3], jO 13 (.ld none) [.t 12], jO 14 (.call 119 .fz) [.t 11, .t 13], jO 15 (.bsl 1 [jN] [0, 1] 2 true) [.t 9, .t 14], jO 16 (.call 118 .fz) [.t 15], jM 4 16] true) (.rt))
theorem cf80 : compF Tryz.prog 80 c80 = some ⟨c80, [.t 4], 17⟩ := by kernel_rfl
def c85 : IC := .sq (.rg [jO 3 (.box (some 2)) [.t 1], jO 4 .mv [.k (.c (.bool false))]] false) (.sq (.rg [jM 5 0, jO 6 (.ld (some 2)) [.t 3], jO 7 (.call 123 .fz) [.t 5, .t 6], jO 8 (.bin .geq) [.t 7, .k jN], jM 4 8] false) (.rt))
theorem cf85 : compF Tryz.prog 85 c85 = some ⟨c85, [.t 4], 9⟩ := by kernel_rfl
def c86 : IC := .sq (.rg [jO 4 .mv [.k (.c (.bool false))]] false) (.sq (.rg [jM 5 0, jM 6 1, jO 7 (.call 124 .fz) [.t 5, .t 6], jO 8 (.bin .geq) [.t 7, .k jN], jM 4 8] false) (.rt))
theorem cf86 : compF Tryz.prog 86 c86 = some ⟨c86, [.t 4], 9⟩ := by kernel_rfl
def c87 : IC := .sq (.rg [jO 1 (.box (some 1)) [.t 0], jO 2 .mv [.k (.c (.bool false))]] false) (.sq (.rg [jO 3 (.fa 0) [.t 1], jO 4 (.ld none) [.t 3], jO 5 .len [.t 4], jO 6 (.bin .lss) [.t 5, .k (jV 1)], jM 7 6, jP 8 7 false (.fa 0) [.t 1], jP 9 7 false (.ld none) [.t 8], jP 10 7 false .len [.t 9], jP 11 7 false (.bin .gtr) [.t 10, .k (jV 4)], jO 12 .pick [.t 7, .k (.c (.bool true)), .t 11], jM 2 12] false) (.rt))
theorem cf87 : compF Tryz.prog 87 c87 = some ⟨c87, [.t 2], 13⟩ := by kernel_rfl
def c88 : IC := .sq (.rg [jO 4 .mv [.k (.c (.bool false))]] false) (.sq (.rg [jM 5 0, jM 6 1, jO 7 (.call 125 .fz) [.t 5, .t 6], jO 8 (.bin .geq) [.t 7, .k jN], jM 4 8] false) (.rt))
theorem cf88 : compF Tryz.prog 88 c88 = some ⟨c88, [.t 4], 9⟩ := by kernel_rfl
def c89 : IC := .sq (.rg [jO 2 .mv [.k (.c (.bool false))]] false) (.sq (.rg [jM 3 0, jO 4 (.bin .lss) [.t 3, .k (jV 2)], jM 5 4, jG 6 5 false 0, jP 7 5 false (.bin .gtr) [.t 6, .k (jV 4)], jO 8 .pick [.t 5, .k (.c (.bool true)), .t 7], jM 2 8] false) (.rt))
theorem cf89 : compF Tryz.prog 89 c89 = some ⟨c89, [.t 2], 9⟩ := by kernel_rfl
def c90 : IC := .sq (.rg [jO 2 (.box (some 12)) [.t 0], jO 4 .mv [.k jN]] false) (.sq (.bl 0 (.sq (.rg [jO 6 (.fa 6) [.t 2], jO 7 (.ld none) [.t 6], jO 8 (.bin .eql) [.t 7, .k (jV 1)], jM 5 8] false) (.cn (.t 5) (.sq (.rg [jM 9 1, jM 4 9] false) (.rt)) (.sq (.rg [jO 11 (.fa 6) [.t 2], jO 12 (.ld none) [.t 11], jO 13 (.bin .eql) [.t 12, .k (jV 2)], jM 14 13, jP 15 14 true (.fa 9) [.t 2], jP 16 14 true (.ld none) [.t 15], jG 17 14 true 1, jP 18 14 true (.bin .eql) [.t 16, .t 17], jO 19 .pick [.t 14, .t 18, .k (.c (.bool false))], jM 10 19] false) (.cn (.t 10) (.sq (.rg [jO 4 .mv [.k jN]] false) (.rt)) (.skip)))))) (.sq (.rg [jO 4 .mv [.k (jV (-1))]] false) (.rt)))
theorem cf90 : compF Tryz.prog 90 c90 = some ⟨c90, [.t 4], 20⟩ := by kernel_rfl
def c91 : IC := .sq (.rg [jO 2 (.box (some 3)) [.t 0], jO 3 (.box (some 3)) [.t 1], jO 4 .mv [.k jN]] false) (.sq (.rg [jO 5 (.fa 0) [.t 2], jO 6 (.ld none) [.t 5], jO 7 (.fa 0) [.t 3], jO 8 (.ld none) [.t 7], jO 9 (.call 119 .fz) [.t 6, .t 8], jO 10 (.fa 1) [.t 2], jO 11 (.ld none) [.t 10], jO 12 (.fa 1) [.t 3], jO 13 (.ld none) [.t 12], jO 14 (.call 119 .fz) [.t 11, .t 13], jO 15 (.fa 2) [.t 2], jO 16 (.ld none) [.t 15], jO 17 (.fa 2) [.t 3], jO 18 (.ld none) [.t 17], jO 19 (.call 119 .fz) [.t 16, .t 18], jO 20 (.bsl 1 [jN] [0, 1, 2] 3 true) [.t 9, .t 14, .t 19], jO 21 (.call 118 .fz) [.t 20], jM 4 21] true) (.rt))
theorem cf91 : compF Tryz.prog 91 c91 = some ⟨c91, [.t 4], 22⟩ := by kernel_rfl
def c94 : IC := .sq (.rg [jO 4 .mv [.k (.c (.bool false))]] false) (.sq (.rg [jM 5 0, jM 6 1, jO 7 (.call 122 .fz) [.t 5, .t 6], jO 8 (.bin .geq) [.t 7, .k jN], jM 4 8] false) (.rt))
theorem cf94 : compF Tryz.prog 94 c94 = some ⟨c94, [.t 4], 9⟩ := by kernel_rfl
def c95 : IC := .sq (.rg [jO 2 (.box (some 2)) [.t 0], jO 3 .mv [.k (.c (.bool false))]] false) (.sq (.rg [jO 4 (.ld none) [.t 1], jO 5 (.fa 0) [.t 4], jO 6 (.fa 2) [.t 5], jO 7 (.ld none) [.t 6], jO 8 (.ld (some 2)) [.t 2], jO 9 (.call 85 .fz) [.t 7, .t 8], jO 10 (.un .not) [.t 9], jM 3 10] true) (.rt))
theorem cf95 : compF Tryz.prog 95 c95 = some ⟨c95, [.t 3], 11⟩ := by kernel_rfl
def c96 : IC := .sq (.rg [jO 2 .mv [.k (.c (.bool false))]] false) (.sq (.rg [jM 3 0, jO 4 (.bin .lss) [.t 3, .k jN], jM 5 4, jG 6 5 false 0, jP 7 5 false (.bin .gtr) [.t 6, .k (jV 1073741824)], jO 8 .pick [.t 5, .k (.c (.bool true)), .t 7], jM 2 8] false) (.rt))
theorem cf96 : compF Tryz.prog 96 c96 = some ⟨c96, [.t 2], 9⟩ := by kernel_rfl
def c97 : IC := .sq (.rg [jO 2 (.box (some 3)) [.t 0], jO 3 (.box (some 3)) [.t 1], jO 4 .mv [.k (.c (.bool false))]] false) (.sq (.rg [jO 5 (.fa 0) [.t 2], jO 6 (.ld none) [.t 5], jO 7 (.fa 0) [.t 3], jO 8 (.ld none) [.t 7], jO 9 (.bin .eql) [.t 6, .t 8], jM 10 9, jP 11 10 true (.fa 1) [.t 2], jP 12 10 true (.ld none) [.t 11], jP 13 10 true (.fa 1) [.t 3], jP 14 10 true (.ld none) [.t 13], jP 15 10 true (.bin .eql) [.t 12, .t 14], jO 16 .pick [.t 10, .t 15, .k (.c (.bool false))], jM 17 16, jP 18 17 true (.fa 2) [.t 2], jP 19 17 true (.ld none) [.t 18], jP 20 17 true (.fa 2) [.t 3], jP 21 17 true (.ld none) [.t 20], jP 22 17 true (.bin .eql) [.t 19, .t 21], jO 23 .pick [.t 17, .t 22, .k (.c (.bool false))], jM 4 23] false) (.rt))
theorem cf97 : compF Tryz.prog 97 c97 = some ⟨c97, [.t 4], 24⟩ := by kernel_rfl
def c98 : IC := .sq (.rg [jO 2 (.box (some 3)) [.t 0], jO 3 (.box (some 3)) [.t 1], jO 4 .mv [.k (.c (.bool false))]] false) (.sq (.rg [jO 5 (.fa 0) [.t 2], jO 6 (.ld none) [.t 5], jO 7 (.fa 0) [.t 3], jO 8 (.ld none) [.t 7], jO 9 (.bin .eql) [.t 6, .t 8], jM 10 9, jP 11 10 true (.fa 1) [.t 2], jP 12 10 true (.ld none) [.t 11], jP 13 10 true (.fa 1) [.t 3], jP 14 10 true (.ld none) [.t 13], jP 15 10 true (.bin .eql) [.t 12, .t 14], jO 16 .pick [.t 10, .t 15, .k (.c (.bool false))], jM 17 16, jP 18 17 true (.fa 2) [.t 2], jP 19 17 true (.ld none) [.t 18], jP 20 17 true (.fa 2) [.t 3], jP 21 17 true (.ld none) [.t 20], jP 22 17 true (.bin .eql) [.t 19, .t 21], jO 23 .pick [.t 17, .t 22, .k (.c (.bool false))], jM 4 23] false) (.rt))
theorem cf98 : compF Tryz.prog 98 c98 = some ⟨c98, [.t 4], 24⟩ := by kernel_rfl
def c99 : IC := .sq (.rg [jO 4 .mv [.k (.c (.bool false))]] false) (.sq (.sq (.rg [jM 6 0, jO 7 .len [.t 6], jM 8 1, jO 9 .len [.t 8], jO 10 (.bin .neq) [.t 7, .t 9]] false) (.cn (.t 10) (.sq (.rg [jO 4 .mv [.k (.c (.bool false))]] false) (.rt)) (.skip))) (.sq (.sq (.rg [jO 5 .mv [.k jN]] false) (.bl 0 (.lp (.sq (.sq (.rg [jM 11 5, jM 12 0, jO 13 .len [.t 12], jO 14 (.bin .lss) [.t 11, .t 13]] false) (.cn (.t 14) (.skip) (.ex 0))) (.sq (.bl 1 (.sq (.rg [jM 17 0, jM 18 5, jO 19 (.ia 2) [.t 17, .t 18], jO 20 (.ld (some 2)) [.t 19], jM 21 1, jM 22 5, jO 23 (.ia 2) [.t 21, .t 22], jO 24 (.ld (some 2)) [.t 23], jO 25 (.call 58 .fz) [.t 20, .t 24], jO 26 (.un .not) [.t 25]] true) (.cn (.t 26) (.sq (.rg [jO 4 .mv [.k (.c (.bool false))]] false) (.rt)) (.skip)))) (.rg [jM 15 5, jO 16 (.bin .add) [.t 15, .k (jV 1)], jM 5 16] false)))))) (.sq (.rg [jO 4 .mv [.k (.c (.bool true))]] false) (.rt))))
theorem cf99 : compF Tryz.prog 99 c99 = some ⟨c99, [.t 4], 27⟩ := by kernel_rfl
def c100 : IC := .sq (.rg [jO 4 .mv [.k (.c (.bool false))]] false) (.sq (.rg [jM 5 1, jO 6 (.bin .geq) [.t 5, .k jN], jM 7 6, jG 8 7 true 1, jG 9 7 true 0, jP 10 7 true .len [.t 9], jP 11 7 true (.bin .lss) [.t 8, .t 10], jO 12 .pick [.t 7, .t 11, .k (.c (.bool false))], jM 4 12] false) (.rt))
theorem cf100 : compF Tryz.prog 100 c100 = some ⟨c100, [.t 4], 13⟩ := by kernel_rfl
def c101 : IC := .sq (.rg [jO 2 .mv [.k .z]] false) (.sq (.sq (.rg [jM 3 0, jO 4 (.nilq 0 false) [.t 3]] false) (.cn (.t 4) (.sq (.rg [jO 2 .mv [.k .z]] false) (.rt)) (.skip))) (.sq (.rg [jO 5 (.bsl 1 [jN] [] 0 true) [], jM 6 0, jO 7 (.app 1) [.t 5, .t 6], jM 2 7] false) (.rt)))
theorem cf101 : compF Tryz.prog 101 c101 = some ⟨c101, [.t 2], 8⟩ := by kernel_rfl
def c102 : IC := .sq (.rg [jO 2 .mv [.k .z]] false) (.sq (.sq (.rg [jM 3 0, jO 4 (.nilq 0 false) [.t 3]] false) (.cn (.t 4) (.sq (.rg [jO 2 .mv [.k .z]] false) (.rt)) (.skip))) (.sq (.rg [⟨(some 5), none, (.bsl 3 [jN, jN, (.c (.string ⟨#[]⟩))] [] 0 true), []⟩, jM 6 0, jO 7 (.app 3) [.t 5, .t 6], jM 2 7] false) (.rt)))
theorem cf102 : compF Tryz.prog 102 c102 = some ⟨c102, [.t 2], 8⟩ := by kernel_rfl
def c103 : IC := .sq (.rg [jO 2 .mv [.k .z]] false) (.sq (.rg [jO 3 .mv [.k .z]] false) (.sq (.rg [jM 4 3, jM 5 0, jO 6 (.app 3) [.t 4, .t 5], jM 2 6] false) (.rt)))
theorem cf103 : compF Tryz.prog 103 c103 = some ⟨c103, [.t 2], 7⟩ := by kernel_rfl
def c104 : IC := .sq (.rg [jO 4 (.box (some 3)) [.t 1], jO 5 (.box (some 12)) [.t 2]] false) (.sq (.rg [jM 6 0, jO 7 (.fa 0) [.t 6], jO 8 (.fa 6) [.t 7], jO 9 (.fa 1) [.t 8], jO 10 (.ld none) [.t 9], jO 11 (.bin .eql) [.t 10, .k jN], jM 12 11, jP 13 12 false (.fa 3) [.t 5], jP 14 12 false (.ld (some 3)) [.t 13], jG 15 12 false 0, jP 16 12 false (.fa 0) [.t 15], jP 17 12 false (.fa 3) [.t 16], jP 18 12 false (.ld (some 3)) [.t 17], jP 19 12 false (.call 11 .fz) [.t 14, .t 18], jP 20 12 false (.bin .gtr) [.t 19, .k jN], jO 21 .pick [.t 12, .k (.c (.bool true)), .t 20]] true) (.cn (.t 21) (.rg [jM 22 0, jO 23 (.ld (some 3)) [.t 4], jO 24 (.fa 3) [.t 5], jO 25 (.ld (some 3)) [.t 24], jO 26 (.fa 0) [.t 5], jO 27 (.ld (some 2)) [.t 26], ⟨(some 28), none, (.bld [jN, jN, (.c (.string ⟨#[]⟩)), jN, jN, jN, jN, jN] [(0, 3), (3, 3), (6, 2)]), [.t 23, .t 25, .t 27]⟩, jO 29 (.fa 0) [.t 22], ⟨none, none, (.st 8), [.t 29, .t 28]⟩] false) (.skip)))
theorem cf104 : compF Tryz.prog 104 c104 = some ⟨c104, [], 30⟩ := by kernel_rfl
def c105 : IC := .sq (.rg [jO 1 (.box (some 3)) [.t 0], jO 2 .mv [.k (.c (.bool false))]] false) (.sq (.sq (.rg [jO 3 (.fa 0) [.t 1], jO 4 (.ld none) [.t 3]] false) (.bl 0 (.sq (.rg [jO 6 (.bin .eql) [.t 4, .k (jV 1)], jM 5 6] false) (.cn (.t 5) (.sq (.rg [jO 7 (.fa 1) [.t 1], jO 8 (.ld none) [.t 7], jO 9 (.bin .eql) [.t 8, .k jN], jM 10 9, jP 11 10 true (.fa 2) [.t 1], jP 12 10 true (.ld none) [.t 11], ⟨(some 13), (some (10, true)), (.bin .eql), [.t 12, .k (.c (.string ⟨#[]⟩))]⟩, jO 14 .pick [.t 10, .t 13, .k (.c (.bool false))], jM 2 14] false) (.rt)) (.sq (.rg [jO 16 (.bin .eql) [.t 4, .k (jV 2)], jM 15 16] false) (.cn (.t 15) (.sq (.rg [jO 17 (.fa 1) [.t 1], jO 18 (.ld none) [.t 17], jO 19 (.call 31 .fz) [.t 18, .k jN, .k (jV 1)], jM 20 19, jP 21 20 true (.fa 2) [.t 1], jP 22 20 true (.ld none) [.t 21], ⟨(some 23), (some (20, true)), (.bin .eql), [.t 22, .k (.c (.string ⟨#[]⟩))]⟩, jO 24 .pick [.t 20, .t 23, .k (.c (.bool false))], jM 2 24] false) (.rt)) (.sq (.rg [jO 26 (.bin .eql) [.t 4, .k (jV 3)], jM 25 26] false) (.cn (.t 25) (.sq (.rg [jO 27 (.fa 1) [.t 1], jO 28 (.ld none) [.t 27], jO 29 (.call 31 .fz) [.t 28, .k (jV (-1152921504606846976)), .k (jV 1152921504606846976)], jM 30 29, jP 31 30 true (.fa 2) [.t 1], jP 32 30 true (.ld none) [.t 31], ⟨(some 33), (some (30, true)), (.bin .eql), [.t 32, .k (.c (.string ⟨#[]⟩))]⟩, jO 34 .pick [.t 30, .t 33, .k (.c (.bool false))], jM 2 34] false) (.rt)) (.sq (.rg [jO 36 (.bin .eql) [.t 4, .k (jV 4)], jM 35 36] false) (.cn (.t 35) (.sq (.rg [jO 37 (.fa 1) [.t 1], jO 38 (.ld none) [.t 37], jO 39 (.bin .eql) [.t 38, .k jN], jM 40 39, jP 41 40 true (.fa 2) [.t 1], jP 42 40 true (.ld none) [.t 41], jP 43 40 true .slen [.t 42], jP 44 40 true (.bin .leq) [.t 43, .k (jV 24)], jO 45 .pick [.t 40, .t 44, .k (.c (.bool false))], jM 2 45] false) (.rt)) (.skip))))))))))) (.sq (.rg [jO 2 .mv [.k (.c (.bool false))]] false) (.rt)))
theorem cf105 : compF Tryz.prog 105 c105 = some ⟨c105, [.t 2], 46⟩ := by kernel_rfl
def c106 : IC := .sq (.rg [jO 2 .mv [.k (.c (.bool false))]] false) (.sq (.rg [jM 3 0, jO 4 .slen [.t 3], jO 5 (.bin .geq) [.t 4, .k (jV 1)], jM 6 5, jG 7 6 true 0, jP 8 6 true .slen [.t 7], jP 9 6 true (.bin .leq) [.t 8, .k (jV 12)], jO 10 .pick [.t 6, .t 9, .k (.c (.bool false))], jM 2 10] false) (.rt))
theorem cf106 : compF Tryz.prog 106 c106 = some ⟨c106, [.t 2], 11⟩ := by kernel_rfl
def c113 : IC := .sq (.rg [jO 3 (.box (some 12)) [.t 1], jO 4 .mv [.k (.c (.bool false))]] false) (.sq (.rg [jO 6 (.fa 0) [.t 3], jO 7 (.ld (some 2)) [.t 6], jO 5 (.alloc [jN, jN]) [], ⟨none, none, (.st 2), [.t 5, .t 7]⟩] false) (.sq (.rg [jO 8 (.fa 0) [.t 5], jO 9 (.ld none) [.t 8], jO 10 (.bin .geq) [.t 9, .k jN], jM 11 10, jP 12 11 true (.fa 0) [.t 5], jP 13 11 true (.ld none) [.t 12], jG 14 11 true 0, jP 15 11 true (.bin .lss) [.t 13, .t 14], jO 16 .pick [.t 11, .t 15, .k (.c (.bool false))], jM 17 16, jP 18 17 true (.fa 1) [.t 5], jP 19 17 true (.ld none) [.t 18], jP 20 17 true (.bin .geq) [.t 19, .k (jV 1)], jO 21 .pick [.t 17, .t 20, .k (.c (.bool false))], jM 22 21, jP 23 22 true (.fa 1) [.t 5], jP 24 22 true (.ld none) [.t 23], jP 25 22 true (.bin .leq) [.t 24, .k (jV 1073741824)], jO 26 .pick [.t 22, .t 25, .k (.c (.bool false))], jM 27 26, jP 28 27 true (.fa 2) [.t 3], jP 29 27 true (.ld none) [.t 28], jP 30 27 true .len [.t 29], jG 31 27 true 0, jP 32 27 true (.bin .eql) [.t 30, .t 31], jO 33 .pick [.t 27, .t 32, .k (.c (.bool false))], jM 34 33, jP 35 34 true (.fa 2) [.t 3], jP 36 34 true (.ld none) [.t 35], jP 37 34 true (.call 48 .fz) [.t 36], jP 38 34 true (.bin .eql) [.t 37, .k jN], jO 39 .pick [.t 34, .t 38, .k (.c (.bool false))], jM 40 39, jP 41 40 true (.fa 2) [.t 3], jP 42 40 true (.ld none) [.t 41], jP 43 40 true (.fa 0) [.t 5], jP 44 40 true (.ld none) [.t 43], jP 45 40 true (.ia 1) [.t 42, .t 44], jP 46 40 true (.ld none) [.t 45], jP 47 40 true (.fa 1) [.t 5], jP 48 40 true (.ld none) [.t 47], jP 49 40 true (.bin .sub) [.t 48, .k (jV 1)], jP 50 40 true (.bin .eql) [.t 46, .t 49], jO 51 .pick [.t 40, .t 50, .k (.c (.bool false))], jM 52 51, jP 53 52 true (.fa 3) [.t 3], jP 54 52 true (.ld (some 3)) [.t 53], jP 55 52 true (.call 141 .fz) [.t 54], jP 56 52 true (.bin .eql) [.t 55, .k jN], jO 57 .pick [.t 52, .t 56, .k (.c (.bool false))], jM 58 57, jP 59 58 true (.fa 3) [.t 3], jP 60 58 true (.fa 2) [.t 59], jP 61 58 true (.ld none) [.t 60], jP 62 58 true (.fa 0) [.t 5], jP 63 58 true (.ld none) [.t 62], jP 64 58 true (.bin .eql) [.t 61, .t 63], jO 65 .pick [.t 58, .t 64, .k (.c (.bool false))], jM 4 65] true) (.rt)))
theorem cf113 : compF Tryz.prog 113 c113 = some ⟨c113, [.t 4], 66⟩ := by kernel_rfl
def c114 : IC := .sq (.rg [jO 4 .mv [.k (.c (.bool false))]] false) (.sq (.rg [jM 5 0, jM 6 1, jO 7 (.call 143 .fz) [.t 5, .t 6], jM 8 7, jG 9 8 true 0, ⟨(some 10), (some (8, true)), (.call 144 .fz), [.t 9, .k (.fn 145 [])]⟩, jP 11 8 true (.un .not) [.t 10], jO 12 .pick [.t 8, .t 11, .k (.c (.bool false))], jM 4 12] false) (.rt))
theorem cf114 : compF Tryz.prog 114 c114 = some ⟨c114, [.t 4], 13⟩ := by kernel_rfl
def c115 : IC := .sq (.rg [jO 4 .mv [.k (.c (.bool false))]] false) (.sq (.sq (.rg [jM 7 1, jO 8 .len [.t 7], jO 9 .mv [.k jN]] false) (.bl 0 (.lp (.sq (.rg [jO 10 (.bin .lss) [.t 9, .t 8]] false) (.sq (.cn (.t 10) (.skip) (.ex 0)) (.sq (.bl 1 (.sq (.rg [jM 11 9, jO 12 (.ia 2) [.t 7, .t 9], jO 13 (.ld (some 2)) [.t 12], jO 6 (.alloc [jN, jN]) [], jM 5 11, ⟨none, none, (.st 2), [.t 6, .t 13]⟩] false) (.sq (.rg [jM 14 0, jO 15 (.ld (some 2)) [.t 6], jO 16 (.call 52 .fz) [.t 14, .t 15], jO 17 (.un .not) [.t 16], jM 18 17, jG 19 18 false 5, jP 20 18 false (.bin .gtr) [.t 19, .k jN], jG 21 18 false 20, jG 22 21 true 1, jG 23 21 true 5, jP 24 21 true (.bin .sub) [.t 23, .k (jV 1)], jP 25 21 true (.ia 2) [.t 22, .t 24], jP 26 21 true (.ld (some 2)) [.t 25], jP 27 21 true (.ld (some 2)) [.t 6], jP 28 21 true (.call 138 .fz) [.t 26, .t 27], jP 29 21 true (.un .not) [.t 28], jP 30 18 false .pick [.t 21, .t 29, .k (.c (.bool false))], jO 31 .pick [.t 18, .k (.c (.bool true)), .t 30]] true) (.cn (.t 31) (.sq (.rg [jO 4 .mv [.k (.c (.bool false))]] false) (.rt)) (.skip))))) (.rg [jO 32 (.bin .add) [.t 9, .k (jV 1)], jM 9 32] false))))))) (.sq (.rg [jO 4 .mv [.k (.c (.bool true))]] false) (.rt)))
theorem cf115 : compF Tryz.prog 115 c115 = some ⟨c115, [.t 4], 33⟩ := by kernel_rfl
def c118 : IC := .sq (.rg [jO 2 .mv [.k jN]] false) (.sq (.rg [jO 3 .mv [.k jN]] false) (.sq (.sq (.rg [jM 6 0, jO 7 .len [.t 6], jO 8 .mv [.k jN]] false) (.bl 0 (.lp (.sq (.rg [jO 9 (.bin .lss) [.t 8, .t 7]] false) (.sq (.cn (.t 9) (.skip) (.ex 0)) (.sq (.bl 1 (.sq (.rg [jO 10 (.ia 1) [.t 6, .t 8], jO 11 (.ld none) [.t 10], jM 5 11] false) (.sq (.rg [jM 12 5, jM 13 3, jO 14 (.bin .neq) [.t 12, .t 13]] false) (.cn (.t 14) (.sq (.rg [jM 15 5, jM 2 15] false) (.rt)) (.skip))))) (.rg [jO 16 (.bin .add) [.t 8, .k (jV 1)], jM 8 16] false))))))) (.sq (.rg [jM 17 3, jM 2 17] false) (.rt))))
theorem cf118 : compF Tryz.prog 118 c118 = some ⟨c118, [.t 2], 18⟩ := by kernel_rfl
def c119 : IC := .sq (.rg [jO 4 .mv [.k jN]] false) (.sq (.rg [jM 7 0, jO 8 (.call 147 .fz) [.t 7], jM 5 8] false) (.sq (.rg [jM 9 1, jO 10 (.call 147 .fz) [.t 9], jM 6 10] false) (.sq (.sq (.rg [jM 11 5] false) (.cn (.t 11) (.sq (.sq (.rg [jM 12 6] false) (.cn (.t 12) (.sq (.rg [jO 4 .mv [.k jN]] false) (.rt)) (.skip))) (.sq (.rg [jO 4 .mv [.k (jV (-1))]] false) (.rt))) (.skip))) (.sq (.sq (.rg [jM 13 6] false) (.cn (.t 13) (.sq (.rg [jO 4 .mv [.k (jV 1)]] false) (.rt)) (.skip))) (.sq (.sq (.rg [jM 14 0, jM 15 1, jO 16 (.bin .lss) [.t 14, .t 15]] false) (.cn (.t 16) (.sq (.rg [jO 4 .mv [.k (jV (-1))]] false) (.rt)) (.skip))) (.sq (.sq (.rg [jM 17 0, jM 18 1, jO 19 (.bin .gtr) [.t 17, .t 18]] false) (.cn (.t 19) (.sq (.rg [jO 4 .mv [.k (jV 1)]] false) (.rt)) (.skip))) (.sq (.rg [jO 4 .mv [.k jN]] false) (.rt))))))))
theorem cf119 : compF Tryz.prog 119 c119 = some ⟨c119, [.t 4], 20⟩ := by kernel_rfl
def c122 : IC := .sq (.rg [jO 4 .mv [.k jN]] false) (.sq (.sq (.rg [jM 6 0, jO 7 .len [.t 6], jO 8 .mv [.k jN]] false) (.bl 0 (.lp (.sq (.rg [jO 9 (.bin .lss) [.t 8, .t 7]] false) (.sq (.cn (.t 9) (.skip) (.ex 0)) (.sq (.bl 1 (.sq (.rg [jM 10 8, jM 5 10] false) (.sq (.rg [jM 11 1, jM 12 0, jM 13 5, jO 14 (.ia 2) [.t 12, .t 13], jO 15 (.ld (some 2)) [.t 14], jO 16 (.callv .fz) [.t 11, .t 15]] false) (.cn (.t 16) (.sq (.rg [jM 17 5, jM 4 17] false) (.rt)) (.skip))))) (.rg [jO 18 (.bin .add) [.t 8, .k (jV 1)], jM 8 18] false))))))) (.sq (.rg [jO 4 .mv [.k (jV (-1))]] false) (.rt)))
theorem cf122 : compF Tryz.prog 122 c122 = some ⟨c122, [.t 4], 19⟩ := by kernel_rfl
def c123 : IC := .sq (.rg [jO 3 (.box (some 2)) [.t 1], jO 4 .mv [.k jN]] false) (.sq (.sq (.rg [jM 6 0, jO 7 .len [.t 6], jO 8 .mv [.k jN]] false) (.bl 0 (.lp (.sq (.rg [jO 9 (.bin .lss) [.t 8, .t 7]] false) (.sq (.cn (.t 9) (.skip) (.ex 0)) (.sq (.bl 1 (.sq (.rg [jM 10 8, jM 5 10] false) (.sq (.rg [jO 11 (.ld (some 2)) [.t 3], jM 12 0, jM 13 5, jO 14 (.ia 2) [.t 12, .t 13], jO 15 (.ld (some 2)) [.t 14], jO 16 (.eqs false [0, 0]) [.t 11, .t 15]] true) (.cn (.t 16) (.sq (.rg [jM 17 5, jM 4 17] false) (.rt)) (.skip))))) (.rg [jO 18 (.bin .add) [.t 8, .k (jV 1)], jM 8 18] false))))))) (.sq (.rg [jO 4 .mv [.k (jV (-1))]] false) (.rt)))
theorem cf123 : compF Tryz.prog 123 c123 = some ⟨c123, [.t 4], 19⟩ := by kernel_rfl
def c124 : IC := .sq (.rg [jO 4 .mv [.k jN]] false) (.sq (.sq (.rg [jM 6 0, jO 7 .len [.t 6], jO 8 .mv [.k jN]] false) (.bl 0 (.lp (.sq (.rg [jO 9 (.bin .lss) [.t 8, .t 7]] false) (.sq (.cn (.t 9) (.skip) (.ex 0)) (.sq (.bl 1 (.sq (.rg [jM 10 8, jM 5 10] false) (.sq (.rg [jM 11 1, jM 12 0, jM 13 5, jO 14 (.ia 1) [.t 12, .t 13], jO 15 (.ld (some 1)) [.t 14], jO 16 (.callv .fz) [.t 11, .t 15]] false) (.cn (.t 16) (.sq (.rg [jM 17 5, jM 4 17] false) (.rt)) (.skip))))) (.rg [jO 18 (.bin .add) [.t 8, .k (jV 1)], jM 8 18] false))))))) (.sq (.rg [jO 4 .mv [.k (jV (-1))]] false) (.rt)))
theorem cf124 : compF Tryz.prog 124 c124 = some ⟨c124, [.t 4], 19⟩ := by kernel_rfl
def c125 : IC := .sq (.rg [jO 4 .mv [.k jN]] false) (.sq (.sq (.rg [jM 6 0, jO 7 .len [.t 6], jO 8 .mv [.k jN]] false) (.bl 0 (.lp (.sq (.rg [jO 9 (.bin .lss) [.t 8, .t 7]] false) (.sq (.cn (.t 9) (.skip) (.ex 0)) (.sq (.bl 1 (.sq (.rg [jM 10 8, jM 5 10] false) (.sq (.rg [jM 11 1, jM 12 0, jM 13 5, jO 14 (.ia 1) [.t 12, .t 13], jO 15 (.ld none) [.t 14], jO 16 (.callv .fz) [.t 11, .t 15]] false) (.cn (.t 16) (.sq (.rg [jM 17 5, jM 4 17] false) (.rt)) (.skip))))) (.rg [jO 18 (.bin .add) [.t 8, .k (jV 1)], jM 8 18] false))))))) (.sq (.rg [jO 4 .mv [.k (jV (-1))]] false) (.rt)))
theorem cf125 : compF Tryz.prog 125 c125 = some ⟨c125, [.t 4], 19⟩ := by kernel_rfl
def c138 : IC := .sq (.rg [jO 2 (.box (some 2)) [.t 0], jO 3 (.box (some 2)) [.t 1], jO 4 .mv [.k (.c (.bool false))]] false) (.sq (.rg [jO 5 (.ld (some 2)) [.t 2], jO 6 (.ld (some 2)) [.t 3], jO 7 (.call 80 .fz) [.t 5, .t 6], jO 8 (.bin .lss) [.t 7, .k jN], jM 4 8] false) (.rt))
theorem cf138 : compF Tryz.prog 138 c138 = some ⟨c138, [.t 4], 9⟩ := by kernel_rfl
def c139 : IC := .sq (.rg [jO 1 (.box (some 3)) [.t 0], jO 2 .mv [.k (.c (.bool false))]] false) (.sq (.rg [jO 3 (.ld (some 3)) [.t 1], jO 4 (.call 155 .fz) [.t 3], jO 5 (.bin .eql) [.t 4, .k jN], jM 6 5, jP 7 6 true (.fa 0) [.t 1], jP 8 6 true (.ld none) [.t 7], jP 9 6 true (.bin .neq) [.t 8, .k (jV 3)], jG 10 6 true 9, jP 11 10 false (.fa 1) [.t 1], jP 12 10 false (.ld none) [.t 11], jP 13 10 false (.call 156 .fz) [.t 12, .k (jV 2147483648)], jP 14 6 true .pick [.t 10, .k (.c (.bool true)), .t 13], jO 15 .pick [.t 6, .t 14, .k (.c (.bool false))], jM 2 15] false) (.rt))
theorem cf139 : compF Tryz.prog 139 c139 = some ⟨c139, [.t 2], 16⟩ := by kernel_rfl
def c140 : IC := .sq (.rg [jO 2 (.box (some 3)) [.t 0], jO 4 .mv [.k (.c (.bool false))]] false) (.sq (.rg [jM 5 1, jO 6 (.bin .eql) [.t 5, .k (jV 2)], jM 7 6, jG 8 7 false 1, jP 9 7 false (.bin .eql) [.t 8, .k (jV 3)], jO 10 .pick [.t 7, .k (.c (.bool true)), .t 9], jM 11 10, jG 12 11 false 1, jP 13 11 false (.bin .eql) [.t 12, .k (jV 4)], jO 14 .pick [.t 11, .k (.c (.bool true)), .t 13], jM 15 14, jP 16 15 true (.ld (some 3)) [.t 2], jP 17 15 true (.call 155 .fz) [.t 16], jP 18 15 true (.bin .eql) [.t 17, .k jN], jO 19 .pick [.t 15, .t 18, .k (.c (.bool false))], jM 20 19, jP 21 20 true (.fa 0) [.t 2], jP 22 20 true (.ld none) [.t 21], jG 23 20 true 1, jP 24 20 true (.bin .eql) [.t 22, .t 23], jG 25 20 true 24, jP 26 25 false (.fa 0) [.t 2], jP 27 25 false (.ld none) [.t 26], jP 28 25 false (.bin .eql) [.t 27, .k (jV 1)], jP 29 20 true .pick [.t 25, .k (.c (.bool true)), .t 28], jO 30 .pick [.t 20, .t 29, .k (.c (.bool false))], jM 4 30] false) (.rt))
theorem cf140 : compF Tryz.prog 140 c140 = some ⟨c140, [.t 4], 31⟩ := by kernel_rfl
def c141 : IC := .sq (.rg [jO 1 (.box (some 3)) [.t 0], jO 2 .mv [.k jN]] false) (.sq (.sq (.rg [jO 3 (.fa 0) [.t 1], jO 4 (.ld none) [.t 3], jO 5 (.call 157 .fz) [.t 4, .k (jV 1099511627776)], jM 6 5, jP 7 6 true (.fa 1) [.t 1], jP 8 6 true (.ld none) [.t 7], jP 9 6 true (.call 157 .fz) [.t 8, .k (jV 65536)], jO 10 .pick [.t 6, .t 9, .k (.c (.bool false))], jM 11 10, jP 12 11 true (.fa 2) [.t 1], jP 13 11 true (.ld none) [.t 12], jP 14 11 true (.call 157 .fz) [.t 13, .k (jV 4)], jO 15 .pick [.t 11, .t 14, .k (.c (.bool false))]] false) (.cn (.t 15) (.sq (.rg [jO 2 .mv [.k jN]] false) (.rt)) (.skip))) (.sq (.rg [jO 2 .mv [.k (jV 1)]] false) (.rt)))
theorem cf141 : compF Tryz.prog 141 c141 = some ⟨c141, [.t 2], 16⟩ := by kernel_rfl
def c143 : IC := .sq (.rg [jO 4 .mv [.k (.c (.bool false))]] false) (.sq (.rg [jM 5 0, jM 6 1, ⟨(some 7), none, (.call 158 .fz), [.t 5, .t 6, .k (.fn 140 [])]⟩, jM 4 7] false) (.rt))
theorem cf143 : compF Tryz.prog 143 c143 = some ⟨c143, [.t 4], 8⟩ := by kernel_rfl
def c144 : IC := .sq (.rg [jO 4 .mv [.k (.c (.bool false))]] false) (.sq (.rg [jM 5 0, jM 6 1, jO 7 (.call 159 .fz) [.t 5, .t 6], jO 8 (.bin .geq) [.t 7, .k jN], jM 4 8] false) (.rt))
theorem cf144 : compF Tryz.prog 144 c144 = some ⟨c144, [.t 4], 9⟩ := by kernel_rfl
def c145 : IC := .sq (.rg [jO 1 (.box (some 3)) [.t 0], jO 2 .mv [.k (.c (.bool false))]] false) (.sq (.rg [jO 3 (.ld (some 3)) [.t 1], jO 4 (.call 139 .fz) [.t 3], jO 5 (.un .not) [.t 4], jM 2 5] false) (.rt))
theorem cf145 : compF Tryz.prog 145 c145 = some ⟨c145, [.t 2], 6⟩ := by kernel_rfl
def c147 : IC := .sq (.rg [jO 2 .mv [.k (.c (.bool false))]] false) (.sq (.rg [jM 3 0, jM 4 0, jO 5 (.bin .neq) [.t 3, .t 4], jM 2 5] false) (.rt))
theorem cf147 : compF Tryz.prog 147 c147 = some ⟨c147, [.t 2], 6⟩ := by kernel_rfl
def c155 : IC := .sq (.rg [jO 1 (.box (some 3)) [.t 0], jO 2 .mv [.k jN]] false) (.sq (.rg [jO 3 .mv [.k (.c (.bool false))]] false) (.sq (.sq (.rg [jO 4 (.fa 0) [.t 1], jO 5 (.ld none) [.t 4]] false) (.bl 0 (.sq (.rg [jO 7 (.bin .eql) [.t 5, .k (jV 1)], jM 6 7] false) (.cn (.t 6) (.rg [jO 8 (.fa 1) [.t 1], jO 9 (.ld none) [.t 8], jO 10 (.bin .eql) [.t 9, .k jN], jM 11 10, jP 12 11 true (.fa 2) [.t 1], jP 13 11 true (.ld none) [.t 12], ⟨(some 14), (some (11, true)), (.bin .eql), [.t 13, .k (.c (.string ⟨#[]⟩))]⟩, jO 15 .pick [.t 11, .t 14, .k (.c (.bool false))], jM 3 15] false) (.sq (.rg [jO 17 (.bin .eql) [.t 5, .k (jV 2)], jM 16 17] false) (.cn (.t 16) (.rg [jO 18 (.fa 1) [.t 1], jO 19 (.ld none) [.t 18], jO 20 (.bin .eql) [.t 19, .k jN], jM 21 20, jP 22 21 false (.fa 1) [.t 1], jP 23 21 false (.ld none) [.t 22], jP 24 21 false (.bin .eql) [.t 23, .k (jV 1)], jO 25 .pick [.t 21, .k (.c (.bool true)), .t 24], jM 26 25, jP 27 26 true (.fa 2) [.t 1], jP 28 26 true (.ld none) [.t 27], ⟨(some 29), (some (26, true)), (.bin .eql), [.t 28, .k (.c (.string ⟨#[]⟩))]⟩, jO 30 .pick [.t 26, .t 29, .k (.c (.bool false))], jM 3 30] false) (.sq (.rg [jO 32 (.bin .eql) [.t 5, .k (jV 3)], jM 31 32] false) (.cn (.t 31) (.rg [jO 33 (.fa 1) [.t 1], jO 34 (.ld none) [.t 33], jO 35 (.call 156 .fz) [.t 34, .k (jV 1152921504606846976)], jM 36 35, jP 37 36 true (.fa 2) [.t 1], jP 38 36 true (.ld none) [.t 37], ⟨(some 39), (some (36, true)), (.bin .eql), [.t 38, .k (.c (.string ⟨#[]⟩))]⟩, jO 40 .pick [.t 36, .t 39, .k (.c (.bool false))], jM 3 40] false) (.sq (.rg [jO 42 (.bin .eql) [.t 5, .k (jV 4)], jM 41 42] false) (.cn (.t 41) (.rg [jO 43 (.fa 1) [.t 1], jO 44 (.ld none) [.t 43], jO 45 (.bin .eql) [.t 44, .k jN], jM 46 45, jP 47 46 true (.fa 2) [.t 1], jP 48 46 true (.ld none) [.t 47], jP 49 46 true .slen [.t 48], jP 50 46 true (.bin .leq) [.t 49, .k (jV 24)], jO 51 .pick [.t 46, .t 50, .k (.c (.bool false))], jM 3 51] false) (.skip))))))))))) (.sq (.sq (.rg [jM 52 3, jO 53 (.un .not) [.t 52]] false) (.cn (.t 53) (.sq (.rg [jO 2 .mv [.k (jV 1)]] false) (.rt)) (.skip))) (.sq (.rg [jO 2 .mv [.k jN]] false) (.rt)))))
theorem cf155 : compF Tryz.prog 155 c155 = some ⟨c155, [.t 2], 54⟩ := by kernel_rfl
def c156 : IC := .sq (.rg [jO 4 .mv [.k (.c (.bool false))]] false) (.sq (.rg [jM 5 0, jM 6 1, jO 7 (.un .neg) [.t 6], jO 8 (.bin .geq) [.t 5, .t 7], jM 9 8, jG 10 9 true 0, jG 11 9 true 1, jP 12 9 true (.bin .leq) [.t 10, .t 11], jO 13 .pick [.t 9, .t 12, .k (.c (.bool false))], jM 4 13] false) (.rt))
theorem cf156 : compF Tryz.prog 156 c156 = some ⟨c156, [.t 4], 14⟩ := by kernel_rfl
def c157 : IC := .sq (.rg [jO 4 .mv [.k (.c (.bool false))]] false) (.sq (.rg [jM 5 0, jO 6 (.bin .geq) [.t 5, .k jN], jM 7 6, jG 8 7 true 0, jG 9 7 true 1, jP 10 7 true (.bin .leq) [.t 8, .t 9], jO 11 .pick [.t 7, .t 10, .k (.c (.bool false))], jM 4 11] false) (.rt))
theorem cf157 : compF Tryz.prog 157 c157 = some ⟨c157, [.t 4], 12⟩ := by kernel_rfl
def c158 : IC := .sq (.rg [jO 6 .mv [.k (.c (.bool false))]] false) (.sq (.sq (.rg [jM 10 0, jO 11 .len [.t 10], jM 12 1, jO 13 .len [.t 12], jO 14 (.bin .neq) [.t 11, .t 13]] false) (.cn (.t 14) (.sq (.rg [jO 6 .mv [.k (.c (.bool false))]] false) (.rt)) (.skip))) (.sq (.sq (.rg [jM 15 0, jO 16 .len [.t 15], jO 17 .mv [.k jN]] false) (.bl 0 (.lp (.sq (.rg [jO 18 (.bin .lss) [.t 17, .t 16]] false) (.sq (.cn (.t 18) (.skip) (.ex 0)) (.sq (.bl 1 (.sq (.rg [jM 19 17, jO 20 (.ia 3) [.t 15, .t 17], jO 21 (.ld (some 3)) [.t 20], ⟨(some 8), none, (.alloc [jN, jN, (.c (.string ⟨#[]⟩))]), []⟩, jM 7 19, ⟨none, none, (.st 3), [.t 8, .t 21]⟩] false) (.sq (.rg [jM 22 1, jM 23 7, jO 24 (.ia 1) [.t 22, .t 23], jO 25 (.ld none) [.t 24], jM 9 25] false) (.sq (.rg [jM 26 2, jO 27 (.ld (some 3)) [.t 8], jM 28 9, jO 29 (.callv .fz) [.t 26, .t 27, .t 28], jO 30 (.un .not) [.t 29]] false) (.cn (.t 30) (.sq (.rg [jO 6 .mv [.k (.c (.bool false))]] false) (.rt)) (.skip)))))) (.rg [jO 31 (.bin .add) [.t 17, .k (jV 1)], jM 17 31] false))))))) (.sq (.rg [jO 6 .mv [.k (.c (.bool true))]] false) (.rt))))
theorem cf158 : compF Tryz.prog 158 c158 = some ⟨c158, [.t 6], 32⟩ := by kernel_rfl
def c159 : IC := .sq (.rg [jO 4 .mv [.k jN]] false) (.sq (.sq (.rg [jM 6 0, jO 7 .len [.t 6], jO 8 .mv [.k jN]] false) (.bl 0 (.lp (.sq (.rg [jO 9 (.bin .lss) [.t 8, .t 7]] false) (.sq (.cn (.t 9) (.skip) (.ex 0)) (.sq (.bl 1 (.sq (.rg [jM 10 8, jM 5 10] false) (.sq (.rg [jM 11 1, jM 12 0, jM 13 5, jO 14 (.ia 3) [.t 12, .t 13], jO 15 (.ld (some 3)) [.t 14], jO 16 (.callv .fz) [.t 11, .t 15]] false) (.cn (.t 16) (.sq (.rg [jM 17 5, jM 4 17] false) (.rt)) (.skip))))) (.rg [jO 18 (.bin .add) [.t 8, .k (jV 1)], jM 8 18] false))))))) (.sq (.rg [jO 4 .mv [.k (jV (-1))]] false) (.rt)))
theorem cf159 : compF Tryz.prog 159 c159 = some ⟨c159, [.t 4], 19⟩ := by kernel_rfl
end Go.Proofs.YtbojpedklnmidaaGreat.D
end
section
set_option linter.unusedVariables false
set_option linter.unusedSimpArgs false
set_option maxRecDepth 100000
set_option linter.constructorNameAsVariable false

/- What functions of raddlekeep, raddleref01 and dot answer. No condition. -/
namespace Go.Proofs.YtbojpedklnmidaaGreat.D
open Go Go.Proofs
open Nat (reduceAdd reduceEqDiff reduceLeDiff)
open Int (reduceLE reduceEq reduceNeg reduceToNat)
theorem refIn_ok (n lo hi : Int) : FnB Tryz.prog 31 [vi n, vi lo, vi hi] (vb (decide (lo ≤ n ∧ n ≤ hi))) := by
  refine fnB_intro cf31 (by simp) ?_
  simp +contextual (maxSteps := 1000000) only [go_sem, ints, intRows, reduceAdd, Nat.reduceBEq, reduceEqDiff, reduceLeDiff, Nat.reduceLT, reduceIte, reduceLE, Int.reduceLT, reduceEq, reduceNeg, reduceToNat, c31]
  simp
theorem in_ok {fl : Fl} (l : List Int) (p : Int) : FnB Tryz.prog 100 [ints fl l, vi p] (vb (decide (0 ≤ p ∧ p < l.length))) := by
  refine fnB_intro cf100 (by simp) ?_
  simp +contextual (maxSteps := 1000000) only [go_sem, ints, intRows, reduceAdd, Nat.reduceBEq, reduceEqDiff, reduceLeDiff, Nat.reduceLT, reduceIte, reduceLE, Int.reduceLT, reduceEq, reduceNeg, reduceToNat, c100]
  simp
theorem take_succ_iff {α : Type} [Inhabited α] {p : α → Prop} {l : List α} {i : Nat} (h : i < l.length) : (∀ n ∈ l.take (i + 1), p n) ↔ (∀ n ∈ l.take i, p n) ∧ p (gN l i) := by
  rw [List.take_add_one, gN_at h]; simp [or_imp, forall_and]
theorem take_succ_eq {α : Type} [Inhabited α] {a b : List α} {i : Nat} (h : i < a.length) (h' : i < b.length) (e : a.take i = b.take i) (e' : gN a i = gN b i) : a.take (i + 1) = b.take (i + 1) := by
  rw [List.take_add_one, List.take_add_one, gN_at h, gN_at h', e, e']
theorem Ints_ok {fl fm : Fl} (a b : List Int) (ha : a.length ≤ maxLen) : FnB Tryz.prog 15 [ints fl a, ints fm b] (vb (decide (a = b))) := by
  unfold maxLen at ha
  refine fnB_intro cf15 (by simp) ?_
  simp +contextual (maxSteps := 1000000) only [go_sem, ints, intRows, reduceAdd, Nat.reduceBEq, reduceEqDiff, reduceLeDiff, Nat.reduceLT, reduceIte, reduceLE, Int.reduceLT, reduceEq, reduceNeg, reduceToNat, c15]
  refine ⟨?_, ?_⟩
  · intro h; simp at h ⊢
    intro e; exact absurd (congrArg List.length e) (by omega)
  · intro h; simp at h
    refine wpC_lp (fun env ob n => env 0 = ints fl a ∧ env 1 = ints fm b ∧ ∃ i : Nat, env 5 = vi i ∧ i ≤ a.length ∧ a.take i = b.take i) (fun env ob n => (a.length - iv (env 5)).toNat) ?_ ?_
    · simp +contextual (maxSteps := 1000000) only [go_sem, ints, intRows, reduceAdd, Nat.reduceBEq, reduceEqDiff, reduceLeDiff, Nat.reduceLT, reduceIte, reduceLE, Int.reduceLT, reduceEq, reduceNeg, reduceToNat]
      simp
      exact ⟨0, by simp⟩
    · rintro env ob n ⟨h0, h1, i, h5, hi, he⟩
      simp +contextual (maxSteps := 1000000) only [go_sem, ints, intRows, reduceAdd, Nat.reduceBEq, reduceEqDiff, reduceLeDiff, Nat.reduceLT, reduceIte, reduceLE, Int.reduceLT, reduceEq, reduceNeg, reduceToNat, h0, h1, h5]
      simp
      refine ⟨fun hlt => ⟨by omega, by omega, fun hne e => hne (by rw [e]), fun heq => ⟨⟨i + 1, ?_, by omega, take_succ_eq (by omega) (by omega) he heq⟩, ?_⟩⟩, fun hge => ?_⟩
      · rw [w64 (by omega)]; simp
      · rw [w64 (by omega)]; omega
      · rw [List.take_of_length_le (by omega), List.take_of_length_le (by omega)] at he; exact he
def vecE (v : List Int) : Int := if 1 ≤ v.length ∧ v.length ≤ 5 then (if ∀ n ∈ v, 0 ≤ n ∧ n ≤ 1073741824 then 0 else 1) else 2
theorem Vector_ok {fl : Fl} (v : List Int) : FnB Tryz.prog 57 [ints fl v] (vi (vecE v)) := by
  refine fnB_intro cf57 (by simp) ?_
  simp +contextual (maxSteps := 1000000) only [go_sem, ints, intRows, reduceAdd, Nat.reduceBEq, reduceEqDiff, reduceLeDiff, Nat.reduceLT, reduceIte, reduceLE, Int.reduceLT, reduceEq, reduceNeg, reduceToNat, c57]
  refine caS_i (refIn_ok _ _ _) trivial ?_
  simp +contextual (maxSteps := 1000000) only [go_sem, ints, intRows, reduceAdd, Nat.reduceBEq, reduceEqDiff, reduceLeDiff, Nat.reduceLT, reduceIte, reduceLE, Int.reduceLT, reduceEq, reduceNeg, reduceToNat]
  refine ⟨?_, ?_⟩
  · intro h; simp at h
    rw [vecE, if_neg (by omega)]
  · intro h; simp at h
    refine wpC_lp (fun env ob n => env 0 = ints fl v ∧ ∃ i : Nat, env 3 = vi i ∧ i ≤ v.length ∧ ∀ n ∈ v.take i, 0 ≤ n ∧ n ≤ 1073741824) (fun env ob n => (v.length - iv (env 3)).toNat) ?_ ?_
    · simp +contextual (maxSteps := 1000000) only [go_sem, ints, intRows, reduceAdd, Nat.reduceBEq, reduceEqDiff, reduceLeDiff, Nat.reduceLT, reduceIte, reduceLE, Int.reduceLT, reduceEq, reduceNeg, reduceToNat]
      simp
      exact ⟨0, by simp⟩
    · rintro env ob n ⟨h0, i, h3, hi, he⟩
      simp +contextual (maxSteps := 1000000) only [go_sem, ints, intRows, reduceAdd, Nat.reduceBEq, reduceEqDiff, reduceLeDiff, Nat.reduceLT, reduceIte, reduceLE, Int.reduceLT, reduceEq, reduceNeg, reduceToNat, h0, h3]
      refine ⟨fun hlt => ?_, fun hge => ?_⟩
      · simp at hlt
        refine ⟨by omega, caS_i (refIn_ok _ _ _) trivial ?_⟩
        simp +contextual (maxSteps := 1000000) only [go_sem, ints, intRows, reduceAdd, Nat.reduceBEq, reduceEqDiff, reduceLeDiff, Nat.reduceLT, reduceIte, reduceLE, Int.reduceLT, reduceEq, reduceNeg, reduceToNat, h0, h3]
        simp
        refine ⟨fun hb => ?_, fun hg hg2 => ⟨⟨i + 1, ?_, by omega, (take_succ_iff hlt).2 ⟨he, hg, hg2⟩⟩, ?_⟩⟩
        · unfold vecE; rw [if_pos (by omega), if_neg]
          intro hall; have := hall (gN v i) (by rw [gN_eq hlt]; exact List.getElem_mem _); omega
        · rw [w64 (by omega)]; simp
        · rw [w64 (by omega)]; omega
      · simp at hge
        rw [List.take_of_length_le (by omega)] at he
        rw [vecE, if_pos (by omega), if_pos he]
end Go.Proofs.YtbojpedklnmidaaGreat.D
end
section
set_option linter.unusedVariables false
set_option linter.unusedSimpArgs false
set_option maxRecDepth 100000
set_option linter.constructorNameAsVariable false

/- What functions of slices and dot answer. No condition. -/
namespace Go.Proofs.YtbojpedklnmidaaGreat.D
open Go Go.Proofs
open Nat (reduceAdd reduceEqDiff reduceLeDiff)
open Int (reduceLE reduceEq reduceNeg reduceToNat)
def idxI {α : Type} (p : α → Bool) (l : List α) : Int := if l.any p then (l.findIdx p : Nat) else -1
theorem idxI_ge {α : Type} (p : α → Bool) (l : List α) : decide (0 ≤ idxI p l) = l.any p := by
  unfold idxI; split <;> simp_all
theorem idxI_at {α : Type} [Inhabited α] {p : α → Bool} {l : List α} {i : Nat} (h : i < l.length) (h1 : ∀ n ∈ l.take i, p n = false) (h2 : p (gN l i) = true) : idxI p l = i := by
  rw [gN_eq h] at h2
  have : l.any p = true := List.any_eq_true.2 ⟨l[i], List.getElem_mem _, h2⟩
  rw [idxI, if_pos this, (List.findIdx_eq h).2 ⟨h2, fun j hj => h1 _ (List.mem_take_iff_getElem.2 ⟨j, by omega, rfl⟩)⟩]
theorem idxI_no {α : Type} {p : α → Bool} {l : List α} (h1 : ∀ n ∈ l, p n = false) : idxI p l = -1 := by
  rw [idxI, if_neg]; simp; exact h1
theorem IndexInts_ok {fl : Fl} (l : List Int) (f : Nat) (caps : List V) (p : Int → Bool) (hl : l.length ≤ maxLen) (hc : ∀ ob, caps.map (resV ob 6) = caps) (hp : ∀ x ∈ l, FnB Tryz.prog f (vi x :: caps) (vb (p x))) :
    FnB Tryz.prog 125 [ints fl l, .fn f caps] (vi (idxI p l)) := by
  unfold maxLen at hl
  refine fnB_intro cf125 (by simp) ?_
  simp +contextual (maxSteps := 1000000) only [go_sem, ints, intRows, reduceAdd, Nat.reduceBEq, reduceEqDiff, reduceLeDiff, Nat.reduceLT, reduceIte, reduceLE, Int.reduceLT, reduceEq, reduceNeg, reduceToNat, c125]
  refine wpC_lp (fun env ob n => env 0 = ints fl l ∧ env 1 = .fn f caps ∧ env 7 = vi l.length ∧ ∃ i : Nat, env 8 = vi i ∧ i ≤ l.length ∧ ∀ n ∈ l.take i, p n = false) (fun env ob n => (l.length - iv (env 8)).toNat) ?_ ?_
  · simp +contextual (maxSteps := 1000000) only [go_sem, ints, intRows, reduceAdd, Nat.reduceBEq, reduceEqDiff, reduceLeDiff, Nat.reduceLT, reduceIte, reduceLE, Int.reduceLT, reduceEq, reduceNeg, reduceToNat]
    simp
    exact ⟨0, by simp⟩
  · rintro env ob n ⟨h0, h1, h7, i, h8, hi, he⟩
    simp +contextual (maxSteps := 1000000) only [go_sem, ints, intRows, reduceAdd, Nat.reduceBEq, reduceEqDiff, reduceLeDiff, Nat.reduceLT, reduceIte, reduceLE, Int.reduceLT, reduceEq, reduceNeg, reduceToNat, h0, h1, h7, h8, List.map_append, List.map_cons, hc]
    refine ⟨fun hlt => ?_, fun hge => ?_⟩
    · simp at hlt
      have hpi := hp (gN l i) (by rw [gN_eq hlt]; exact List.getElem_mem _)
      try simp only [ints] at hpi
      refine ⟨by omega, caS_i hpi trivial ?_⟩
      simp +contextual (maxSteps := 1000000) only [go_sem, ints, intRows, reduceAdd, Nat.reduceBEq, reduceEqDiff, reduceLeDiff, Nat.reduceLT, reduceIte, reduceLE, Int.reduceLT, reduceEq, reduceNeg, reduceToNat, h0, h1, h7, h8]
      refine ⟨fun hb => ?_, fun hg => ⟨⟨i + 1, ?_, by omega, (take_succ_iff hlt).2 ⟨he, hg⟩⟩, ?_⟩⟩
      · rw [idxI_at hlt he hb]
      · rw [w64 (by omega)]; simp
      · rw [w64 (by omega)]; omega
    · simp at hge
      rw [List.take_of_length_le (by omega)] at he
      rw [idxI_no he]
theorem ContainsInts_ok {fl : Fl} (l : List Int) (f : Nat) (caps : List V) (p : Int → Bool) (hl : l.length ≤ maxLen) (hc : ∀ ob, caps.map (resV ob 6) = caps) (hc' : ∀ ob, caps.map (resV ob 5) = caps) (hp : ∀ x ∈ l, FnB Tryz.prog f (vi x :: caps) (vb (p x))) :
    FnB Tryz.prog 88 [ints fl l, .fn f caps] (vb (l.any p)) := by
  refine fnB_intro cf88 (by simp) ?_
  simp +contextual (maxSteps := 1000000) only [go_sem, ints, intRows, reduceAdd, Nat.reduceBEq, reduceEqDiff, reduceLeDiff, Nat.reduceLT, reduceIte, reduceLE, Int.reduceLT, reduceEq, reduceNeg, reduceToNat, c88, hc']
  refine caS_i (IndexInts_ok l f caps p hl hc hp) trivial ?_
  simp +contextual (maxSteps := 1000000) only [go_sem, ints, intRows, reduceAdd, Nat.reduceBEq, reduceEqDiff, reduceLeDiff, Nat.reduceLT, reduceIte, reduceLE, Int.reduceLT, reduceEq, reduceNeg, reduceToNat, idxI_ge]
theorem okn_ok (n : Int) : FnB Tryz.prog 96 [vi n] (vb (decide (n < 0 ∨ 1073741824 < n))) := by
  refine fnB_intro cf96 (by simp) ?_
  simp +contextual (maxSteps := 1000000) only [go_sem, ints, intRows, reduceAdd, Nat.reduceBEq, reduceEqDiff, reduceLeDiff, Nat.reduceLT, reduceIte, reduceLE, Int.reduceLT, reduceEq, reduceNeg, reduceToNat, c96]
  simp
theorem Check_ok {fl : Fl} (v : List Int) : FnB Tryz.prog 48 [ints fl v] (vi (vecE v)) := by
  refine fnB_intro cf48 (by simp) ?_
  simp +contextual (maxSteps := 1000000) only [go_sem, ints, intRows, reduceAdd, Nat.reduceBEq, reduceEqDiff, reduceLeDiff, Nat.reduceLT, reduceIte, reduceLE, Int.reduceLT, reduceEq, reduceNeg, reduceToNat, c48]
  refine ⟨fun h => ?_, fun h => ?_⟩ <;> simp at h
  · rw [vecE, if_neg (by omega)]
  · have h2 := h.2
    refine caS_i (ContainsInts_ok v _ [] _ (by unfold maxLen; omega) (fun _ => rfl) (fun _ => rfl) (fun n _ => okn_ok n)) trivial ?_
    simp +contextual (maxSteps := 1000000) only [go_sem, ints, intRows, reduceAdd, Nat.reduceBEq, reduceEqDiff, reduceLeDiff, Nat.reduceLT, reduceIte, reduceLE, Int.reduceLT, reduceEq, reduceNeg, reduceToNat]
    refine ⟨fun h3 => ?_, fun h3 => ?_⟩
    · simp at h3
      obtain ⟨n, hn, h3⟩ := h3
      rw [vecE, if_pos (by omega), if_neg]
      intro hall; have := hall n hn; omega
    · simp at h3
      rw [vecE, if_pos (by omega), if_pos]
      intro n hn; exact h3 n hn
end Go.Proofs.YtbojpedklnmidaaGreat.D
end
section
set_option linter.unusedVariables false
set_option linter.unusedSimpArgs false
set_option maxRecDepth 100000
set_option linter.constructorNameAsVariable false

/- What functions of dot answer: dots. No condition. -/
namespace Go.Proofs.YtbojpedklnmidaaGreat.D
open Go Go.Proofs
open Nat (reduceAdd reduceEqDiff reduceLeDiff)
open Int (reduceLE reduceEq reduceNeg reduceToNat)
structure Dt where
  p : Int
  n : Int
instance : Inhabited Dt := ⟨⟨0, 0⟩⟩
def dotV (d : Dt) : List V := [vi d.p, vi d.n]
def hasB (v : List Int) (d : Dt) : Bool := decide (0 ≤ d.p ∧ d.p < v.length ∧ 1 ≤ d.n ∧ d.n ≤ gN v d.p.toNat)
def inI (n : Int) : Prop := -9223372036854775808 ≤ n ∧ n ≤ 9223372036854775807
theorem Has_ok {fl : Fl} (v : List Int) (d : Dt) : FnB Tryz.prog 52 [ints fl v, .ag (dotV d)] (vb (hasB v d)) := by
  refine fnB_intro cf52 (by simp) ?_
  simp +contextual (maxSteps := 1000000) only [go_sem, ints, intRows, reduceAdd, Nat.reduceBEq, reduceEqDiff, reduceLeDiff, Nat.reduceLT, reduceIte, reduceLE, Int.reduceLT, reduceEq, reduceNeg, reduceToNat, c52, dotV]
  refine caD_i (in_ok v d.p) trivial ?_
  simp +contextual (maxSteps := 1000000) only [go_sem, ints, intRows, reduceAdd, Nat.reduceBEq, reduceEqDiff, reduceLeDiff, Nat.reduceLT, reduceIte, reduceLE, Int.reduceLT, reduceEq, reduceNeg, reduceToNat, dotV]
  simp only [hasB]
  generalize gN v d.p.toNat = z
  by_cases h1 : 0 ≤ d.p ∧ d.p < v.length <;> by_cases h2 : 1 ≤ d.n <;> simp [h1, h2]
  · intro h3 h4; exact absurd ⟨h3, h4⟩ h1
theorem CloneInts_ok (v : List Int) (hv : v.length ≤ maxLen) (f : Fl) : FnB Tryz.prog 101 [ints f v] (ints .o v) := by
  refine fnB_intro cf101 (by simp) ?_
  by_cases h : v = []
  · subst h
    simp +contextual (maxSteps := 1000000) only [go_sem, ints, intRows, reduceAdd, Nat.reduceBEq, reduceEqDiff, reduceLeDiff, Nat.reduceLT, reduceIte, reduceLE, Int.reduceLT, reduceEq, reduceNeg, reduceToNat, c101, List.map_nil]
    refine nxS_app Own.nil (Nat.zero_le _) rfl rfl (by simp [maxLen]) fun v' ob' ho _ => ?_
    simp +contextual (maxSteps := 1000000) only [go_sem, ints, intRows, reduceAdd, Nat.reduceBEq, reduceEqDiff, reduceLeDiff, Nat.reduceLT, reduceIte, reduceLE, Int.reduceLT, reduceEq, reduceNeg, reduceToNat]
    rw [out_own ho (fun ob' => by simp) [] (fun _ => rfl)]; rfl
  · simp +contextual (maxSteps := 1000000) only [go_sem, ints, intRows, reduceAdd, Nat.reduceBEq, reduceEqDiff, reduceLeDiff, Nat.reduceLT, reduceIte, reduceLE, Int.reduceLT, reduceEq, reduceNeg, reduceToNat, c101, h]
    refine nxS_app Own.nil (Nat.zero_le _) rfl (allInts v) (by simpa using hv) fun v' ob' ho _ => ?_
    simp +contextual (maxSteps := 1000000) only [go_sem, ints, intRows, reduceAdd, Nat.reduceBEq, reduceEqDiff, reduceLeDiff, Nat.reduceLT, reduceIte, reduceLE, Int.reduceLT, reduceEq, reduceNeg, reduceToNat]
    rw [List.nil_append] at ho
    rw [out_own ho (fun ob' => gInts ob' v) [] (fun _ => rfl)]; rfl
end Go.Proofs.YtbojpedklnmidaaGreat.D
end
section
set_option linter.unusedVariables false
set_option linter.unusedSimpArgs false
set_option maxRecDepth 100000
set_option linter.constructorNameAsVariable false

/- What functions of dot answer: vectors. No condition. -/
namespace Go.Proofs.YtbojpedklnmidaaGreat.D
open Go Go.Proofs
open Nat (reduceAdd reduceEqDiff reduceLeDiff)
open Int (reduceLE reduceEq reduceNeg reduceToNat)
def eachV (p : Int → Int → Int) (a b : List Int) : List Int × Int :=
  if vecE a ≠ 0 then ([], vecE a) else if vecE b ≠ 0 then ([], vecE b) else if a.length ≠ b.length then ([], 2) else (List.zipWith p a b, 0)
end Go.Proofs.YtbojpedklnmidaaGreat.D
end
section
set_option linter.unusedVariables false
set_option linter.unusedSimpArgs false
set_option maxRecDepth 100000
set_option linter.constructorNameAsVariable false

/- What functions of dot answer: the least of several. No condition. -/
namespace Go.Proofs.YtbojpedklnmidaaGreat.D
open Go Go.Proofs
open Nat (reduceAdd reduceEqDiff reduceLeDiff)
open Int (reduceLE reduceEq reduceNeg reduceToNat)
def firstE : List (List Int) → Int
  | [] => 0
  | v :: l => if vecE v ≠ 0 then vecE v else firstE l
def leastF : List Int → List (List Int) → List Int × Int
  | out, [] => (out, 0)
  | out, v :: l => if (eachV min out v).2 ≠ 0 then ([], (eachV min out v).2) else leastF (eachV min out v).1 l
def leastV (l : List (List Int)) : List Int × Int :=
  if l = [] then ([], 2) else if firstE l ≠ 0 then ([], firstE l) else leastF (gN l 0) l
theorem drop_gN {α : Type} [Inhabited α] {l : List α} {i : Nat} (h : i < l.length) : l.drop i = gN l i :: l.drop (i + 1) := by
  rw [gN_eq h]; exact List.drop_eq_getElem_cons h
end Go.Proofs.YtbojpedklnmidaaGreat.D
end
section
set_option linter.unusedVariables false
set_option linter.unusedSimpArgs false
set_option maxRecDepth 100000
set_option linter.constructorNameAsVariable false

/- What functions of raddlelaw05 answer. No condition. -/
namespace Go.Proofs.YtbojpedklnmidaaGreat.D
open Go Go.Proofs
open Nat (reduceAdd reduceEqDiff reduceLeDiff)
open Int (reduceLE reduceEq reduceNeg reduceToNat)
end Go.Proofs.YtbojpedklnmidaaGreat.D
end
section
set_option linter.unusedVariables false
set_option linter.unusedSimpArgs false
set_option maxRecDepth 100000
set_option linter.constructorNameAsVariable false

/- The least of several, plainly. No condition. -/
namespace Go.Proofs.YtbojpedklnmidaaGreat.D
open Go Go.Proofs
open Nat (reduceAdd reduceEqDiff reduceLeDiff)
open Int (reduceLE reduceEq reduceNeg reduceToNat)
end Go.Proofs.YtbojpedklnmidaaGreat.D
end
section
set_option linter.unusedVariables false
set_option linter.unusedSimpArgs false
set_option maxRecDepth 100000
set_option linter.constructorNameAsVariable false

/- Merging and the least, plainly. No condition. -/
namespace Go.Proofs.YtbojpedklnmidaaGreat.D
open Go Go.Proofs
open Nat (reduceAdd reduceEqDiff reduceLeDiff)
open Int (reduceLE reduceEq reduceNeg reduceToNat)
end Go.Proofs.YtbojpedklnmidaaGreat.D
end
section
set_option linter.unusedVariables false
set_option linter.unusedSimpArgs false
set_option maxRecDepth 100000
set_option linter.constructorNameAsVariable false

/- DotLattice. No condition. -/
namespace Go.Proofs.YtbojpedklnmidaaGreat.D
open Go Go.Proofs
open Nat (reduceAdd reduceEqDiff reduceLeDiff)
open Int (reduceLE reduceEq reduceNeg reduceToNat)
def gDt (d : Dt) : Prop := gInt .i64 d.p ∧ gInt .i64 d.n
end Go.Proofs.YtbojpedklnmidaaGreat.D
end
section
set_option linter.unusedVariables false
set_option linter.unusedSimpArgs false
set_option maxRecDepth 100000
set_option linter.constructorNameAsVariable false

/- What functions of raddlekeep and mat answer. No condition. -/
namespace Go.Proofs.YtbojpedklnmidaaGreat.D
open Go Go.Proofs
open Nat (reduceAdd reduceEqDiff reduceLeDiff)
open Int (reduceLE reduceEq reduceNeg reduceToNat)
attribute [go_sem] List.set_cons_zero List.set_cons_succ
def resP (ob : OB) (n o : Nat) : Option (List V) → V
  | some r => .bp ((r.drop o).map (resV ob n))
  | none => .u
@[go_sem] theorem resP_s (ob : OB) (n o : Nat) (r : List V) : resP ob n o (some r) = .bp ((r.drop o).map (resV ob n)) := (rfl)
@[go_sem] theorem res_pt (ob : OB) (n id i o : Nat) : resV ob (n + 1) (.pt id i o) = resP ob n o ((ob id).bind fun x => x.l[i]?) := by
  simp only [resV]; cases (ob id).bind fun x => x.l[i]? <;> rfl
theorem Own.upd {n m k : Nat} {ob : OB} {v : V} {rows : List (List V)} {x : Option Ob} (h : Own n ob v k rows) (hm : n ≤ m) : Own n (updO ob m x) v k rows := by
  rcases h with h | ⟨h1, id, cap, hid, h2, h3⟩
  · exact .inl h
  · exact .inr ⟨h1, id, cap, hid, h2, by rw [updO, if_neg (by omega), h3]⟩
theorem Own.mono {n n' : Nat} {ob : OB} {v : V} {k : Nat} {rows : List (List V)} (h : Own n ob v k rows) (hn : n ≤ n') : Own n' ob v k rows := by
  rcases h with h | ⟨h1, id, cap, h2, h3, h4⟩
  · exact .inl h
  · exact .inr ⟨h1, id, cap, by omega, h3, h4⟩
def matE (m : List (List Int)) : Int := if 1 ≤ m.length ∧ m.length ≤ 5 ∧ ∀ v ∈ m, v.length = m.length then (if ∀ v ∈ m, vecE v = 0 then 0 else 1) else 2
def newM (n : Nat) : List (List Int) := List.replicate n (List.replicate n 0)
def newV (n : Int) : List (List Int) × Int := if 1 ≤ n ∧ n ≤ 5 then (newM n.toNat, 0) else ([], 1)
def vecB (v : List Int) (n : Int) : Bool := decide ((v.length : Int) = n) && decide (vecE v = 0)
def learnOk (m : List (List Int)) (have_ : List Int) (p : Int) (safe : List Int) : Bool := vecB have_ m.length && vecB safe m.length && (decide (0 ≤ p) && decide (p < m.length))
def learnV (m : List (List Int)) (have_ : List Int) (p : Int) (safe : List Int) : List (List Int) × Bool × Int :=
  if matE m ≠ 0 then ([], false, matE m) else if learnOk m have_ p safe = false then ([], false, 1)
  else if gN have_ p.toNat < gN safe p.toNat then (m, false, 0) else (m.set p.toNat (List.zipWith max (gN m p.toNat) safe), true, 0)
def frontV (m : List (List Int)) : List Int × Int := if matE m ≠ 0 then ([], matE m) else leastV m
end Go.Proofs.YtbojpedklnmidaaGreat.D
end
section
set_option linter.unusedVariables false
set_option linter.unusedSimpArgs false
set_option maxRecDepth 100000
set_option linter.constructorNameAsVariable false

/- MatLater. No condition. -/
namespace Go.Proofs.YtbojpedklnmidaaGreat.D
open Go Go.Proofs
open Nat (reduceAdd reduceEqDiff reduceLeDiff)
open Int (reduceLE reduceEq reduceNeg reduceToNat)
theorem w1 : newV 2 = ([[0, 0], [0, 0]], 0) := by decide
theorem w2 : learnV [[0, 0], [0, 0]] [3, 2] 1 [1, 2] = ([[0, 0], [1, 2]], true, 0) := by decide
theorem w3 : frontV [[0, 0], [1, 2]] = ([0, 0], 0) := by decide
@[go_sem] theorem ia_1 (ob : OB) (f : Fl) (r : List V) (x : V) (l : List (List V)) : iaV ob 1 (.im f (r :: [x] :: l)) 1 = some (.bp [x]) := by simp [iaV]; omega
theorem gN_set {α : Type} [Inhabited α] {l : List α} {i : Nat} (h : i < l.length) (x : α) : gN (l.set i x) i = x := by rw [gN_eq (by simpa using h)]; simp
end Go.Proofs.YtbojpedklnmidaaGreat.D
end
section
set_option linter.unusedVariables false
set_option linter.unusedSimpArgs false
set_option maxRecDepth 100000
set_option linter.constructorNameAsVariable false

/- MatAll. No condition. -/
namespace Go.Proofs.YtbojpedklnmidaaGreat.D
open Go Go.Proofs
open Nat (reduceAdd reduceEqDiff reduceLeDiff)
open Int (reduceLE reduceEq reduceNeg reduceToNat)
theorem gN_mem {α : Type} [Inhabited α] {l : List α} {i : Nat} (h : i < l.length) : gN l i ∈ l := by rw [gN_eq h]; exact List.getElem_mem _
end Go.Proofs.YtbojpedklnmidaaGreat.D
end
section
set_option linter.unusedVariables false
set_option linter.unusedSimpArgs false
set_option maxRecDepth 100000
set_option linter.constructorNameAsVariable false

/- What the reference's functions answer: twins, matrices, vectors. No condition. -/
namespace Go.Proofs.YtbojpedklnmidaaGreat.D
open Go Go.Proofs
open Nat (reduceAdd reduceEqDiff reduceLeDiff)
open Int (reduceLE reduceEq reduceNeg reduceToNat)
theorem take_gN {α : Type} [Inhabited α] {l : List α} {i : Nat} (h : i < l.length) : l.take (i + 1) = l.take i ++ [gN l i] := by
  rw [List.take_add_one, gN_at h]; simp
theorem RHas_ok {fl : Fl} (v : List Int) (d : Dt) (hv : v.length ≤ maxLen) : FnB Tryz.prog 60 [ints fl v, .ag (dotV d)] (vb (hasB v d)) := by
  unfold maxLen at hv
  refine fnB_intro cf60 (by simp) ?_
  simp +contextual (maxSteps := 1000000) only [go_sem, ints, intRows, reduceAdd, Nat.reduceBEq, reduceEqDiff, reduceLeDiff, Nat.reduceLT, reduceIte, reduceLE, Int.reduceLT, reduceEq, reduceNeg, reduceToNat, c60, dotV]
  first | refine caS_i (refIn_ok _ _ _) trivial ?_ | refine caD_i (refIn_ok _ _ _) trivial ?_ | refine gC_i (fun _ => refIn_ok _ _ _) trivial ?_ | refine gCD_i (fun _ => refIn_ok _ _ _) trivial ?_ | refine caE_i (refIn_ok _ _ _) trivial ?_
  simp +contextual (maxSteps := 1000000) only [go_sem, ints, intRows, reduceAdd, Nat.reduceBEq, reduceEqDiff, reduceLeDiff, Nat.reduceLT, reduceIte, reduceLE, Int.reduceLT, reduceEq, reduceNeg, reduceToNat, dotV]
  simp only [hasB]
  by_cases h0 : v.length = 0
  · rw [h0]
    have e : IntKind.i64.wrap (((0 : Nat) : Int) - 1) = -1 := by decide
    rw [e]
    have e1 : decide (0 ≤ d.p ∧ d.p ≤ -1) = false := by rw [decide_eq_false_iff_not]; omega
    have e2 : decide (0 ≤ d.p ∧ d.p < ((0 : Nat) : Int) ∧ 1 ≤ d.n ∧ d.n ≤ gN v d.p.toNat) = false := by rw [decide_eq_false_iff_not]; omega
    rw [e1, e2]; simp
  rw [w64 (by omega)]
  generalize gN v d.p.toNat = z
  simp only [← Bool.decide_and, decide_eq_true_iff, V.c.injEq, Value.bool.injEq, decide_eq_decide]
  omega
end Go.Proofs.YtbojpedklnmidaaGreat.D
end
section
set_option linter.unusedVariables false
set_option linter.unusedSimpArgs false
set_option maxRecDepth 100000
set_option linter.constructorNameAsVariable false

/- MatRises. No condition. -/
namespace Go.Proofs.YtbojpedklnmidaaGreat.D
open Go Go.Proofs
open Nat (reduceAdd reduceEqDiff reduceLeDiff)
open Int (reduceLE reduceEq reduceNeg reduceToNat)
end Go.Proofs.YtbojpedklnmidaaGreat.D
end
section
set_option linter.unusedVariables false
set_option linter.unusedSimpArgs false
set_option maxRecDepth 100000
set_option linter.constructorNameAsVariable false

/- MatExact. No condition. -/
namespace Go.Proofs.YtbojpedklnmidaaGreat.D
open Go Go.Proofs
open Nat (reduceAdd reduceEqDiff reduceLeDiff)
open Int (reduceLE reduceEq reduceNeg reduceToNat)
end Go.Proofs.YtbojpedklnmidaaGreat.D
end
section
set_option linter.unusedVariables false
set_option linter.unusedSimpArgs false
set_option maxRecDepth 100000
set_option linter.constructorNameAsVariable false

/- Comparing dots; spoiling; DotExact. No condition. -/
namespace Go.Proofs.YtbojpedklnmidaaGreat.D
open Go Go.Proofs
open Nat (reduceAdd reduceEqDiff reduceLeDiff)
open Int (reduceLE reduceEq reduceNeg reduceToNat)
def cmpI (x y : Int) : Int := if x < y then -1 else if y < x then 1 else 0
theorem isNaN_ok (x : Int) : FnB Tryz.prog 147 [vi x] (vb false) := by
  refine fnB_intro cf147 (by simp) ?_
  simp +contextual (maxSteps := 1000000) only [go_sem, ints, intRows, reduceAdd, Nat.reduceBEq, reduceEqDiff, reduceLeDiff, Nat.reduceLT, reduceIte, reduceLE, Int.reduceLT, reduceEq, reduceNeg, reduceToNat, c147]
theorem cmpI_ok (x y : Int) : FnB Tryz.prog 119 [vi x, vi y] (vi (cmpI x y)) := by
  refine fnB_intro cf119 (by simp) ?_
  simp +contextual (maxSteps := 1000000) only [go_sem, ints, intRows, reduceAdd, Nat.reduceBEq, reduceEqDiff, reduceLeDiff, Nat.reduceLT, reduceIte, reduceLE, Int.reduceLT, reduceEq, reduceNeg, reduceToNat, c119]
  first | refine caS_i (isNaN_ok x) trivial ?_ | refine caD_i (isNaN_ok x) trivial ?_ | refine gC_i (fun _ => isNaN_ok x) trivial ?_ | refine gCD_i (fun _ => isNaN_ok x) trivial ?_ | refine caE_i (isNaN_ok x) trivial ?_
  simp +contextual (maxSteps := 1000000) only [go_sem, ints, intRows, reduceAdd, Nat.reduceBEq, reduceEqDiff, reduceLeDiff, Nat.reduceLT, reduceIte, reduceLE, Int.reduceLT, reduceEq, reduceNeg, reduceToNat]
  first | refine caS_i (isNaN_ok y) trivial ?_ | refine caD_i (isNaN_ok y) trivial ?_ | refine gC_i (fun _ => isNaN_ok y) trivial ?_ | refine gCD_i (fun _ => isNaN_ok y) trivial ?_ | refine caE_i (isNaN_ok y) trivial ?_
  simp +contextual (maxSteps := 1000000) only [go_sem, ints, intRows, reduceAdd, Nat.reduceBEq, reduceEqDiff, reduceLeDiff, Nat.reduceLT, reduceIte, reduceLE, Int.reduceLT, reduceEq, reduceNeg, reduceToNat]
  refine ⟨fun h => ?_, fun h => ⟨fun h2 => ?_, fun h2 => ?_⟩⟩ <;> simp at *
  · rw [cmpI, if_pos h]
  · rw [cmpI, if_neg (by omega), if_pos h2]
  · rw [cmpI, if_neg (by omega), if_neg (by omega)]
def orV : List Int → Int
  | [] => 0
  | x :: l => if x ≠ 0 then x else orV l
theorem cmpOr_ok {fl : Fl} (l : List Int) (hl : l.length ≤ maxLen) : FnB Tryz.prog 118 [ints fl l] (vi (orV l)) := by
  unfold maxLen at hl
  refine fnB_intro cf118 (by simp) ?_
  simp +contextual (maxSteps := 1000000) only [go_sem, ints, intRows, reduceAdd, Nat.reduceBEq, reduceEqDiff, reduceLeDiff, Nat.reduceLT, reduceIte, reduceLE, Int.reduceLT, reduceEq, reduceNeg, reduceToNat, c118]
  refine wpC_lp (fun env ob n' => env 3 = vi 0 ∧ env 6 = ints fl l ∧ env 7 = vi l.length ∧ ∃ i : Nat, env 8 = vi i ∧ i ≤ l.length ∧ orV l = orV (l.drop i)) (fun env ob _ => (l.length - iv (env 8)).toNat) ?_ ?_
  · simp +contextual (maxSteps := 1000000) only [go_sem, ints, intRows, reduceAdd, Nat.reduceBEq, reduceEqDiff, reduceLeDiff, Nat.reduceLT, reduceIte, reduceLE, Int.reduceLT, reduceEq, reduceNeg, reduceToNat]
    exact ⟨0, rfl, by omega, by simp⟩
  rintro env ob n' ⟨h3, h6, h7, i, h8, hi, he⟩
  simp +contextual (maxSteps := 1000000) only [go_sem, ints, intRows, reduceAdd, Nat.reduceBEq, reduceEqDiff, reduceLeDiff, Nat.reduceLT, reduceIte, reduceLE, Int.reduceLT, reduceEq, reduceNeg, reduceToNat, h3, h6, h7, h8]
  refine ⟨fun hlt => ?_, fun hge => ?_⟩
  · simp at hlt
    rw [drop_gN hlt, orV] at he
    refine ⟨by omega, fun hb => ?_, fun hg => ⟨⟨i + 1, ?_, by omega, ?_⟩, ?_⟩⟩
    · simp at hb; rw [if_pos hb] at he; rw [he]
    · rw [w64 (by omega)]; simp
    · simp at hg; rw [if_neg (by simpa using hg)] at he; exact he
    · rw [w64 (by omega)]; omega
  · simp at hge
    rw [List.drop_eq_nil_of_le (by omega), orV] at he
    rw [he]
def cmpD (a b : Dt) : Int := orV [cmpI a.p b.p, cmpI a.n b.n]
theorem cmpD_ok (a b : Dt) : FnB Tryz.prog 80 [.ag (dotV a), .ag (dotV b)] (vi (cmpD a b)) := by
  refine fnB_intro cf80 (by simp) ?_
  simp +contextual (maxSteps := 1000000) only [go_sem, ints, intRows, reduceAdd, Nat.reduceBEq, reduceEqDiff, reduceLeDiff, Nat.reduceLT, reduceIte, reduceLE, Int.reduceLT, reduceEq, reduceNeg, reduceToNat, c80, dotV]
  first | refine caS_i (cmpI_ok a.p b.p) trivial ?_ | refine caD_i (cmpI_ok a.p b.p) trivial ?_ | refine gC_i (fun _ => cmpI_ok a.p b.p) trivial ?_ | refine gCD_i (fun _ => cmpI_ok a.p b.p) trivial ?_ | refine caE_i (cmpI_ok a.p b.p) trivial ?_
  simp +contextual (maxSteps := 1000000) only [go_sem, ints, intRows, reduceAdd, Nat.reduceBEq, reduceEqDiff, reduceLeDiff, Nat.reduceLT, reduceIte, reduceLE, Int.reduceLT, reduceEq, reduceNeg, reduceToNat]
  first | refine caS_i (cmpI_ok a.n b.n) trivial ?_ | refine caD_i (cmpI_ok a.n b.n) trivial ?_ | refine gC_i (fun _ => cmpI_ok a.n b.n) trivial ?_ | refine gCD_i (fun _ => cmpI_ok a.n b.n) trivial ?_ | refine caE_i (cmpI_ok a.n b.n) trivial ?_
  simp +contextual (maxSteps := 1000000) only [go_sem, ints, intRows, reduceAdd, Nat.reduceBEq, reduceEqDiff, reduceLeDiff, Nat.reduceLT, reduceIte, reduceLE, Int.reduceLT, reduceEq, reduceNeg, reduceToNat]
  first | refine caS_i (cmpOr_ok [cmpI a.p b.p, cmpI a.n b.n] (by simp [maxLen])) trivial ?_ | refine caD_i (cmpOr_ok [cmpI a.p b.p, cmpI a.n b.n] (by simp [maxLen])) trivial ?_ | refine gC_i (fun _ => cmpOr_ok [cmpI a.p b.p, cmpI a.n b.n] (by simp [maxLen])) trivial ?_ | refine gCD_i (fun _ => cmpOr_ok [cmpI a.p b.p, cmpI a.n b.n] (by simp [maxLen])) trivial ?_ | refine caE_i (cmpOr_ok [cmpI a.p b.p, cmpI a.n b.n] (by simp [maxLen])) trivial ?_
  simp +contextual (maxSteps := 1000000) only [go_sem, ints, intRows, reduceAdd, Nat.reduceBEq, reduceEqDiff, reduceLeDiff, Nat.reduceLT, reduceIte, reduceLE, Int.reduceLT, reduceEq, reduceNeg, reduceToNat, cmpD]
def lessD (a b : Dt) : Bool := decide (a.p < b.p ∨ a.p = b.p ∧ a.n < b.n)
theorem cmpD_less (a b : Dt) : decide (cmpD a b < 0) = lessD a b := by
  unfold cmpD lessD orV orV orV cmpI
  rw [decide_eq_decide]
  repeat' split
  all_goals first | omega | simp_all | skip
theorem Less_ok (a b : Dt) : FnB Tryz.prog 138 [.ag (dotV a), .ag (dotV b)] (vb (lessD a b)) := by
  refine fnB_intro cf138 (by simp) ?_
  simp +contextual (maxSteps := 1000000) only [go_sem, ints, intRows, reduceAdd, Nat.reduceBEq, reduceEqDiff, reduceLeDiff, Nat.reduceLT, reduceIte, reduceLE, Int.reduceLT, reduceEq, reduceNeg, reduceToNat, c138, dotV]
  first | refine caS_i (cmpD_ok a b) trivial ?_ | refine caD_i (cmpD_ok a b) trivial ?_ | refine gC_i (fun _ => cmpD_ok a b) trivial ?_ | refine gCD_i (fun _ => cmpD_ok a b) trivial ?_ | refine caE_i (cmpD_ok a b) trivial ?_
  simp +contextual (maxSteps := 1000000) only [go_sem, ints, intRows, reduceAdd, Nat.reduceBEq, reduceEqDiff, reduceLeDiff, Nat.reduceLT, reduceIte, reduceLE, Int.reduceLT, reduceEq, reduceNeg, reduceToNat, cmpD_less]
theorem RLess_ok (a b : Dt) : FnB Tryz.prog 70 [.ag (dotV a), .ag (dotV b)] (vb (lessD a b)) := by
  refine fnB_intro cf70 (by simp) ?_
  simp +contextual (maxSteps := 1000000) only [go_sem, ints, intRows, reduceAdd, Nat.reduceBEq, reduceEqDiff, reduceLeDiff, Nat.reduceLT, reduceIte, reduceLE, Int.reduceLT, reduceEq, reduceNeg, reduceToNat, c70, dotV]
  simp only [lessD, V.c.injEq, Value.bool.injEq]
  rw [Bool.eq_iff_iff]; simp
theorem gi {n : Int} (h : gInt .i64 n) : inI n := by simp [gInt, Lit.wf, IntKind.min, IntKind.max, IntKind.signed, IntKind.bits] at h; unfold inI; omega
end Go.Proofs.YtbojpedklnmidaaGreat.D
end
