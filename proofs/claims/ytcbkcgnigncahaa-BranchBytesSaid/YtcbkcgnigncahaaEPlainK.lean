import Derived.Test.YtcbkcgnigncahaaEGivenXb
import Derived.WideShapes
import Derived.Sort.KeysCollected
import Derived.Test.YtcbkcgnigncahaaEGivenT
import Derived.Test.YtcbkcgnigncahaaEPx9
namespace Go.Proofs.Ytcbkcgnigncahaa.P
open Go.RowKit Go.Maps Go.Proofs.YtcbkcgnigncahaaW.PrintWords
set_option linter.unusedVariables false
set_option linter.unusedSimpArgs false
theorem bytes_same : ∀ x y : List UInt8, Op.bytesLess x y = bytesBefore x y
  | [], [] => rfl
  | [], _ :: _ => rfl
  | _ :: _, [] => rfl
  | a :: x, b :: y => by simp only [Op.bytesLess, bytesBefore, bytes_same x y]
theorem ltB_eq (a b : ByteArray) : ltB a b = bytesBefore a.data.toList b.data.toList := by
  unfold ltB
  rw [bytes_same, ByteArray.toList_eq, ByteArray.toList_eq]
def toB (p : Lit × DataW Unit) : S97 := ⟨⟨(Go.strOf p.1).toArray⟩, (lkD p.2).1⟩
def bOf (D : DataW Unit) : List S97 := match D with
  | .map es => es.map toB
  | _ => []
def toV (x : S43) : S92 := ⟨x.f0, x.f1, x.f2, x.f3, x.f4, x.f5, x.f6, x.f7⟩
def vOf (V : List S43) : List S92 := V.map toV
def rfOf (s : Ln) : Rf := ⟨bOf s.D, vOf s.V⟩
theorem rd_vOf {V : List S43} {i : Int} (h0 : 0 ≤ i) (h1 : i < V.length) : rd_T92 (vOf V) i = toV (rd_T43 V i) := by
  unfold rd_T92 rd_T43 vOf
  rw [List.getD_eq_getElem?_getD, List.getD_eq_getElem?_getD, List.getElem?_map, List.getElem?_eq_getElem (show i.toNat < V.length by omega)]
  rfl
def beforeP (p q : Lit × DataW Unit) : Prop := p.1.before q.1 = true
structure Good2 (s : Ln) : Prop extends Good s where
  ris : ∃ es, s.D = .map es ∧ es.Pairwise beforeP
  last : ∀ name, hasB s.D name = true → (lkp s.D name).2 = lastR (vOf s.V) name s.V.length
  branch : ∀ i : Int, 0 ≤ i → i < s.V.length → hasB s.D (rd_T43 s.V i).f2 = true
theorem mem_ins {x p : Lit × DataW Unit} : ∀ {l : List (Lit × DataW Unit)}, p ∈ DataW.insert x l → p = x ∨ p ∈ l
  | [], h => .inl (List.mem_singleton.1 h)
  | y :: r, h => by
    simp only [DataW.insert] at h
    split at h
    · rcases List.mem_cons.1 h with h | h
      · exact .inl h
      · exact .inr h
    · rcases List.mem_cons.1 h with h | h
      · exact .inr (h ▸ List.mem_cons_self)
      · rcases mem_ins h with h | h
        · exact .inl h
        · exact .inr (List.mem_cons_of_mem _ h)
theorem before_total {a b : Lit} (ha : isStr a = true) (hb : isStr b = true) (hne : a ≠ b) (h : a.before b = false) : b.before a = true := by
  cases a with
  | string x =>
    cases b with
    | string y =>
      rcases WideAt.bytes_total x y (fun e => hne (by rw [e])) with h1 | h1
      · rw [show (Lit.string x).before (.string y) = bytesBefore x y from rfl, h1] at h; cases h
      · exact h1
    | _ => simp [isStr] at hb
  | _ => simp [isStr] at ha
theorem before_trans {a b c : Lit} (ha : isStr a = true) (hb : isStr b = true) (hc : isStr c = true) (h1 : a.before b = true) (h2 : b.before c = true) : a.before c = true := by
  cases a with
  | string x =>
    cases b with
    | string y =>
      cases c with
      | string z => exact WideShapes.bytes_trans x y z h1 h2
      | _ => simp [isStr] at hc
    | _ => simp [isStr] at hb
  | _ => simp [isStr] at ha
theorem ins_pw {x : Lit × DataW Unit} (hx : isStr x.1 = true) : ∀ {l : List (Lit × DataW Unit)}, (∀ p ∈ l, isStr p.1 = true) → (∀ p ∈ l, p.1 ≠ x.1) → l.Pairwise beforeP → (DataW.insert x l).Pairwise beforeP
  | [], _, _, _ => by simp [DataW.insert]
  | y :: r, hs, hne, hp => by
    have hy := hs y List.mem_cons_self
    rw [List.pairwise_cons] at hp
    simp only [DataW.insert]
    split
    · rename_i hb
      refine List.pairwise_cons.2 ⟨fun z hz => ?_, List.pairwise_cons.2 hp⟩
      rcases List.mem_cons.1 hz with rfl | hz
      · exact hb
      · exact before_trans hx hy (hs z (List.mem_cons_of_mem _ hz)) hb (hp.1 z hz)
    · rename_i hb
      refine List.pairwise_cons.2 ⟨fun z hz => ?_, ins_pw hx (fun p h => hs p (List.mem_cons_of_mem _ h)) (fun p h => hne p (List.mem_cons_of_mem _ h)) hp.2⟩
      rcases mem_ins hz with rfl | hz
      · exact before_total hx hy (Ne.symm (hne y List.mem_cons_self)) (by simpa using hb)
      · exact hp.1 z hz
theorem keyed_all {es : List (Lit × DataW Unit)} (h : es.any (fun p => !isStr p.1) = false) : ∀ p ∈ es, isStr p.1 = true := by
  intro p hp
  rw [List.any_eq_false] at h
  simpa using h p hp
theorem str_key {p : Lit × DataW Unit} (h : isStr p.1 = true) : p.1 = keyB (toB p).f0 := by
  obtain ⟨a, b⟩ := p
  cases a with
  | string q => simp [keyB, toB, Go.strOf]
  | _ => simp [isStr] at h
theorem key_eq {p : Lit × DataW Unit} (h : isStr p.1 = true) (name : ByteArray) : p.1.sameKey (keyB name) = decide ((toB p).f0 = name) := by
  rw [str_key h]
  show ((toB p).f0.data.toList == name.data.toList) = _
  rw [Bool.eq_iff_iff]
  simp only [beq_iff_eq, decide_eq_true_eq]
  constructor
  · intro e; exact ByteArray.ext (Array.toList_inj.1 e)
  · intro e; rw [e]
theorem bOf_len (s : Ln) (h : Keyed s.D) : (bOf s.D).length = Maps.size s.D := by
  obtain ⟨es, he, _⟩ := h
  rw [he]
  show (es.map toB).length = es.length
  rw [List.length_map]
/-- What find answers. -/
theorem find_of {D : DataW Unit} (hk : Keyed D) (name : ByteArray) : (hasB D name = false ∧ findR (bOf D) name = -1) ∨ (hasB D name = true ∧ 0 ≤ findR (bOf D) name ∧ findR (bOf D) name < (bOf D).length ∧ (rd_T97 (bOf D) (findR (bOf D) name)).f1 = (lkp D name).1) := by
  obtain ⟨es, rfl, he⟩ := hk
  have hs := keyed_all he
  have hidx : (bOf (.map es)).findIdx? (fun b => decide (b.f0 = name)) = es.findIdx? (fun p => p.1.sameKey (keyB name)) := by
    show (es.map toB).findIdx? _ = _
    rw [List.findIdx?_map]
    clear he
    induction es with
    | nil => rfl
    | cons p es ih =>
      simp only [List.findIdx?_cons, Function.comp]
      rw [key_eq (hs p List.mem_cons_self) name]
      rw [show es.findIdx? ((fun b => decide (b.f0 = name)) ∘ toB) = es.findIdx? (fun p => p.1.sameKey (keyB name)) from ih (fun p hp => hs p (List.mem_cons_of_mem _ hp))]
  cases hf : es.findIdx? (fun p => p.1.sameKey (keyB name)) with
  | none =>
    left
    rw [hf] at hidx
    refine ⟨?_, by unfold findR; rw [hidx]⟩
    unfold hasB
    rw [has_eq, List.any_eq_false]
    rw [List.findIdx?_eq_none_iff] at hf
    intro p hp
    rw [hf p hp]
    decide
  | some i =>
    right
    rw [hf] at hidx
    have hR : findR (bOf (.map es)) name = (i : Int) := by unfold findR; rw [hidx]
    rw [List.findIdx?_eq_some_iff_getElem] at hf
    obtain ⟨hi, h1, h2⟩ := hf
    have hlen : (bOf (.map es)).length = es.length := by show (es.map toB).length = _; rw [List.length_map]
    refine ⟨?_, by omega, by omega, ?_⟩
    · unfold hasB
      rw [has_eq, List.any_eq_true]
      exact ⟨es[i], List.getElem_mem _, h1⟩
    · rw [hR, rd97_at i (by omega)]
      have hfind : es.find? (fun p => p.1.sameKey (keyB name)) = some es[i] := by
        rw [List.find?_eq_some_iff_getElem]
        exact ⟨h1, i, hi, rfl, fun j hj => by have := h2 j hj; simpa using this⟩
      have hat : (DataW.map es).atKey (keyB name) (lnD 0 0) = es[i].2 := by
        unfold DataW.atKey
        simp only
        rw [hfind]
      unfold lkp
      rw [hat]
      show ((es.map toB)[i]'(by rw [List.length_map]; exact hi)).f1 = _
      rw [List.getElem_map]
      rfl
theorem lastR_agree {V V' : List S92} {name : ByteArray} : ∀ (n : Nat), (∀ j : Nat, j < n → (rd_T92 V' (j : Int)).f2 = (rd_T92 V (j : Int)).f2) → lastR V' name n = lastR V name n
  | 0, _ => rfl
  | n + 1, h => by
    simp only [lastR]
    rw [h n (Nat.lt_succ_self n), lastR_agree n (fun j hj => h j (by omega))]
theorem lastR_lt (V : List S92) (name : ByteArray) : ∀ n : Nat, -1 ≤ lastR V name n ∧ lastR V name n < n
  | 0 => ⟨Int.le_refl _, by simp [lastR]⟩
  | n + 1 => by
    simp only [lastR]
    have := lastR_lt V name n
    split <;> omega
theorem first_of {s : Ln} (h : Good2 s) {name : ByteArray} (hb : hasB s.D name = true) : firstR (rfOf s) name = firstF (lkp s.D name) := by
  rcases find_of h.keyed name with ⟨h1, _⟩ | ⟨_, h2, h3, h4⟩
  · rw [h1] at hb; cases hb
  · unfold firstR firstF
    have hl : (rfOf s).V.length = s.V.length := by show (vOf s.V).length = _; unfold vOf; rw [List.length_map]
    rw [hl]
    have := h.last name hb
    show (if 0 ≤ lastR (vOf s.V) name s.V.length then lastR (vOf s.V) name s.V.length else if findR (bOf s.D) name < 0 then -1 else (rd_T97 (bOf s.D) (findR (bOf s.D) name)).f1) = _
    rw [← this]
    by_cases h0 : 0 ≤ (lkp s.D name).2
    · rw [if_pos h0, if_pos h0]
    · rw [if_neg h0, if_neg h0, if_neg (by omega), h4]
end Go.Proofs.Ytcbkcgnigncahaa.P
namespace Go.Proofs.Ytcbkcgnigncahaa.P
open Go.RowKit Go.Maps Go.Proofs.YtcbkcgnigncahaaW.PrintWords
set_option linter.unusedVariables false
set_option linter.unusedSimpArgs false
/-- j is i or one of its ancestors. -/
inductive Anc (s : Ln) : Int → Int → Prop
  | refl (i : Int) : Anc s i i
  | up (i j : Int) (h0 : 0 ≤ i) (h : Anc s (rd_T43 s.V i).f1 j) : Anc s i j
theorem Anc.le {s : Ln} (hg : LnOk s) {i j : Int} (h : Anc s i j) : 0 ≤ j → i < s.V.length → j ≤ i := by
  induction h with
  | refl i => intro _ _; exact Int.le_refl _
  | up i j h0 h ih =>
    intro hj hi
    have := hg i h0 hi
    have := ih hj (by omega)
    omega
theorem search_found {s : Ln} (hg : Good s) (p : S43 → Bool) : ∀ (k : Nat) (i : Int), i < s.V.length → (searchGo s p k i = -1 ∨ (0 ≤ searchGo s p k i ∧ searchGo s p k i < s.V.length ∧ (rd_T43 s.V (searchGo s p k i)).f7 = false ∧ p (rd_T43 s.V (searchGo s p k i)) = true ∧ Anc s i (searchGo s p k i)))
  | 0, i, hi => .inl rfl
  | k + 1, i, hi => by
    simp only [searchGo]
    by_cases h0 : i < 0
    · rw [if_pos h0]; exact .inl rfl
    · rw [if_neg h0]
      by_cases hp : (!(rd_T43 s.V i).f7 && p (rd_T43 s.V i)) = true
      · rw [if_pos hp, (hg.par i (by omega) hi).2.2]
        simp only [Bool.and_eq_true, Bool.not_eq_true'] at hp
        exact .inr ⟨by omega, hi, hp.1, hp.2, .refl _⟩
      · rw [if_neg hp]
        have h1 := hg.par i (by omega) hi
        rcases search_found hg p k (rd_T43 s.V i).f1 (by omega) with h | h
        · exact .inl h
        · exact .inr ⟨h.1, h.2.1, h.2.2.1, h.2.2.2.1, .up _ _ (by omega) h.2.2.2.2⟩
end Go.Proofs.Ytcbkcgnigncahaa.P
namespace Go.Proofs.Ytcbkcgnigncahaa.P
open Go.RowKit Go.Maps Go.Proofs.YtcbkcgnigncahaaW.PrintWords
set_option linter.unusedVariables false
set_option linter.unusedSimpArgs false
def rpublishF (r : Rf) (name : ByteArray) (a2 a3 a4 a5 : Int) : Int × Int × Rf :=
  if findR r.B name < 0 then (0, 6, r)
  else if rangeB a2 a3 a4 = false then (0, 1, r)
  else if 0 ≤ firstR r name ∧ a3 < (rd_T92 r.V (firstR r name)).f4 then (0, 16, r)
  else if 1024 ≤ r.V.length then (0, 4, r)
  else ((r.V.length : Int), 0, ⟨r.B, r.V ++ [⟨(r.V.length : Int), firstR r name, name, a2, a3, a4, a5, false⟩]⟩)
def rexists (r : Rf) (id : Int) : Bool := decide (0 ≤ id) && decide (id < r.V.length)
def rcloseF (r : Rf) (id : Int) : Int × Rf :=
  if rexists r id = false then (7, r)
  else if (rd_T92 r.V id).f7 = true then (28, r)
  else (0, ⟨r.B, r.V.set id.toNat ⟨(rd_T92 r.V id).f0, (rd_T92 r.V id).f1, (rd_T92 r.V id).f2, (rd_T92 r.V id).f3, (rd_T92 r.V id).f4, (rd_T92 r.V id).f5, (rd_T92 r.V id).f6, true⟩⟩)
def rgetF (r : Rf) (id : Int) : S92 × Int :=
  if rexists r id = false then (z92, 7)
  else if (rd_T92 r.V id).f7 = true then (z92, 28)
  else (rd_T92 r.V id, 0)
def rgo (V : List S92) (t u : Int) : Nat → Int → Int
  | 0, _ => -1
  | k + 1, i => if i < 0 then -1 else if (rd_T92 V i).f7 = true ∨ t < (rd_T92 V i).f3 ∨ u < (rd_T92 V i).f4 then rgo V t u k (rd_T92 V i).f1 else i
def rreadF (r : Rf) (name : ByteArray) (t u : Int) : Int × Int :=
  if findR r.B name < 0 then (-1, 6)
  else if rgo r.V t u (r.V.length + 1) (firstR r name) < 0 then (-1, 7) else (rgo r.V t u (r.V.length + 1) (firstR r name), 0)
def rheadF (r : Rf) (name : ByteArray) : Int × Int :=
  if (rreadF r name 4611686018427387904 4611686018427387904).2 = 7 then (-1, 0) else rreadF r name 4611686018427387904 4611686018427387904
def rdoF (r : Rf) (o : S38) : Int × Int × Rf :=
  if o.f0 = 0 then (0, (rforkF r o.f1 o.f2).1, (rforkF r o.f1 o.f2).2)
  else if o.f0 = 2 then (0, (rcloseF r o.f2).1, (rcloseF r o.f2).2)
  else rpublishF r o.f1 o.f3 o.f4 o.f5 o.f6
section
variable {s : Ln}
theorem rf_len (s : Ln) : (rfOf s).V.length = s.V.length := by show (vOf s.V).length = _; unfold vOf; rw [List.length_map]
theorem rexists_eq (s : Ln) (id : Int) : rexists (rfOf s) id = existsB s id := by unfold rexists existsB; rw [rf_len]
theorem rd_rf {i : Int} (h0 : 0 ≤ i) (h1 : i < s.V.length) : rd_T92 (rfOf s).V i = toV (rd_T43 s.V i) := rd_vOf h0 h1
theorem ins_bOf {es : List (Lit × DataW Unit)} (hs : ∀ p ∈ es, isStr p.1 = true) (name : ByteArray) (hne : ∀ p ∈ es, p.1 ≠ keyB name) (fr l : Int) : (DataW.insert (keyB name, lnD fr l) es).map toB = insR (es.map toB) name fr := by
  unfold insR kOf
  induction es with
  | nil => simp [DataW.insert, toB, keyB, Go.strOf, lkD, lnD]
  | cons p es ih =>
    have hp := hs p List.mem_cons_self
    have hpn := hne p List.mem_cons_self
    have hk := str_key hp
    simp only [DataW.insert, List.map_cons]
    by_cases hb : (keyB name).before p.1 = true
    · have hn : ltB (toB p).f0 name = false := by
        rw [ltB_eq]
        cases e : bytesBefore (toB p).f0.data.toList name.data.toList with
        | false => rfl
        | true =>
          have h1 : bytesBefore name.data.toList (toB p).f0.data.toList = true := by rw [hk] at hb; exact hb
          have := WideShapes.bytes_trans _ _ _ e h1
          rw [WideAt.bytes_irrefl] at this
          cases this
      rw [if_pos hb, List.takeWhile_cons_of_neg (by simpa using hn)]
      simp [toB, keyB, Go.strOf, lkD, lnD]
    · have hn : ltB (toB p).f0 name = true := by
        rw [ltB_eq]
        have h1 := before_total (a := keyB name) (b := p.1) rfl hp (Ne.symm hpn) (by simpa using hb)
        rw [hk] at h1
        exact h1
      rw [if_neg hb, List.takeWhile_cons_of_pos (by simpa using hn)]
      simp only [List.map_cons, List.length_cons, List.take_succ_cons, List.drop_succ_cons, List.cons_append]
      rw [ih (fun q h => hs q (List.mem_cons_of_mem _ h)) (fun q h => hne q (List.mem_cons_of_mem _ h))]
theorem bOf_put {name : ByteArray} (h : Good2 s) (hn : hasB s.D name = false) (fr : Int) : bOf (s.D.put (keyB name) (lnD fr (-1))) = insR (bOf s.D) name fr := by
  obtain ⟨es, he, hk⟩ := h.keyed
  unfold hasB at hn
  rw [he] at hn ⊢
  rw [has_eq, List.any_eq_false] at hn
  have hf : es.filter (fun p => !p.1.sameKey (keyB name)) = es := by
    rw [List.filter_eq_self]
    intro p hp
    have := hn p hp
    simpa using this
  show ((DataW.insert (keyB name, lnD fr (-1)) (es.filter (fun p => !p.1.sameKey (keyB name)))).map toB) = _
  rw [hf]
  refine ins_bOf (keyed_all hk) name (fun p hp e => ?_) fr (-1)
  have := hn p hp
  rw [e] at this
  simp [keyB, Lit.sameKey] at this
theorem rfork_eq (h : Good2 s) (name : ByteArray) (fr : Int) : rforkF (rfOf s) name fr = ((forkF s name fr).1, rfOf (forkF s name fr).2) := by
  have hB : (rfOf s).B.length = Maps.size s.D := bOf_len s h.keyed
  have hV := rf_len s
  by_cases c1 : validB name = false
  · have e1 : rforkF (rfOf s) name fr = (6, rfOf s) := by unfold rforkF; rw [if_pos c1]
    have e2 : forkF s name fr = (6, s) := by unfold forkF; rw [if_pos c1]
    rw [e1, e2]
  rcases find_of h.keyed name with ⟨h1, h2⟩ | ⟨h1, h2, _⟩
  · have n2 : ¬ 0 ≤ findR (rfOf s).B name := by show ¬ 0 ≤ findR (bOf s.D) name; omega
    have n2' : ¬ hasB s.D name = true := by rw [h1]; decide
    by_cases c3 : fr ≠ -1 ∧ existsB s fr = false
    · have c3' : fr ≠ -1 ∧ (fr < 0 ∨ ((rfOf s).V.length : Int) ≤ fr) := by
        refine ⟨c3.1, ?_⟩
        have := c3.2
        unfold existsB at this
        simp at this
        omega
      have e1 : rforkF (rfOf s) name fr = (7, rfOf s) := by unfold rforkF; rw [if_neg c1, if_neg n2, if_pos c3']
      have e2 : forkF s name fr = (7, s) := by unfold forkF; rw [if_neg c1, if_neg n2', if_pos c3]
      rw [e1, e2]
    · have c3' : ¬ (fr ≠ -1 ∧ (fr < 0 ∨ ((rfOf s).V.length : Int) ≤ fr)) := by
        rintro ⟨a, b⟩
        refine c3 ⟨a, ?_⟩
        unfold existsB
        simp
        omega
      by_cases c4 : fr ≠ -1 ∧ closedB s fr = true
      · have hx : 0 ≤ fr ∧ fr < s.V.length := by have := c4.1; omega
        have c4' : 0 ≤ fr ∧ (rd_T92 (rfOf s).V fr).f7 = true := ⟨hx.1, by rw [rd_rf hx.1 hx.2]; exact c4.2⟩
        have e1 : rforkF (rfOf s) name fr = (28, rfOf s) := by unfold rforkF; rw [if_neg c1, if_neg n2, if_neg c3', if_pos c4']
        have e2 : forkF s name fr = (28, s) := by unfold forkF; rw [if_neg c1, if_neg n2', if_neg c3, if_pos c4]
        rw [e1, e2]
      · have c4' : ¬ (0 ≤ fr ∧ (rd_T92 (rfOf s).V fr).f7 = true) := by
          rintro ⟨a, b⟩
          have hx : 0 ≤ fr ∧ fr < s.V.length := by omega
          rw [rd_rf hx.1 hx.2] at b
          exact c4 ⟨by omega, b⟩
        by_cases c5 : 64 ≤ Maps.size s.D
        · have e1 : rforkF (rfOf s) name fr = (4, rfOf s) := by unfold rforkF; rw [if_neg c1, if_neg n2, if_neg c3', if_neg c4', hB, if_pos c5]
          have e2 : forkF s name fr = (4, s) := by unfold forkF; rw [if_neg c1, if_neg n2', if_neg c3, if_neg c4, if_pos c5]
          rw [e1, e2]
        · have e1 : rforkF (rfOf s) name fr = (0, ⟨insR (rfOf s).B name fr, (rfOf s).V⟩) := by unfold rforkF; rw [if_neg c1, if_neg n2, if_neg c3', if_neg c4', hB, if_neg c5]
          have e2 : forkF s name fr = (0, ⟨s.D.put (keyB name) (lnD fr (-1)), s.V⟩) := by unfold forkF; rw [if_neg c1, if_neg n2', if_neg c3, if_neg c4, if_neg c5]
          rw [e1, e2]
          show _ = ((0 : Int), (⟨bOf (s.D.put (keyB name) (lnD fr (-1))), vOf s.V⟩ : Rf))
          rw [bOf_put h h1]
          rfl
  · have e1 : rforkF (rfOf s) name fr = (8, rfOf s) := by unfold rforkF; rw [if_neg c1, if_pos (show 0 ≤ findR (rfOf s).B name from h2)]
    have e2 : forkF s name fr = (8, s) := by unfold forkF; rw [if_neg c1, if_pos h1]
    rw [e1, e2]
theorem rexists_true {r : Rf} {id : Int} (h : rexists r id = true) : 0 ≤ id ∧ id < r.V.length := by
  unfold rexists at h
  simpa using h
theorem rget_eq (s : Ln) (id : Int) : rgetF (rfOf s) id = (toV (getF s id).1, (getF s id).2) := by
  unfold rgetF getF
  rw [rexists_eq]
  by_cases c1 : existsB s id = false
  · rw [if_pos c1, if_pos c1]; rfl
  · have hx := exists_true (s := s) (id := id) (by simpa using c1)
    rw [if_neg c1, if_neg c1, rd_rf hx.1 hx.2]
    by_cases c2 : closedB s id = true
    · rw [if_pos c2, if_pos (show (toV (rd_T43 s.V id)).f7 = true from c2)]; rfl
    · rw [if_neg c2, if_neg (show ¬ (toV (rd_T43 s.V id)).f7 = true from c2)]
theorem rclose_eq (s : Ln) (id : Int) : rcloseF (rfOf s) id = ((closeF s id).1, rfOf (closeF s id).2) := by
  by_cases c1 : existsB s id = false
  · have e1 : rcloseF (rfOf s) id = (7, rfOf s) := by unfold rcloseF; rw [rexists_eq, if_pos c1]
    have e2 : closeF s id = (7, s) := by unfold closeF; rw [if_pos c1]
    rw [e1, e2]
  · have hx := exists_true (s := s) (id := id) (by simpa using c1)
    by_cases c2 : closedB s id = true
    · have e1 : rcloseF (rfOf s) id = (28, rfOf s) := by unfold rcloseF; rw [rexists_eq, if_neg c1, rd_rf hx.1 hx.2, if_pos (show (toV (rd_T43 s.V id)).f7 = true from c2)]
      have e2 : closeF s id = (28, s) := by unfold closeF; rw [if_neg c1, if_pos c2]
      rw [e1, e2]
    · have e2 : closeF s id = (0, ⟨s.D, s.V.set id.toNat ⟨(rd_T43 s.V id).f0, (rd_T43 s.V id).f1, (rd_T43 s.V id).f2, (rd_T43 s.V id).f3, (rd_T43 s.V id).f4, (rd_T43 s.V id).f5, (rd_T43 s.V id).f6, true⟩⟩) := by unfold closeF; rw [if_neg c1, if_neg c2]
      have e1 : rcloseF (rfOf s) id = (0, ⟨(rfOf s).B, (rfOf s).V.set id.toNat (toV ⟨(rd_T43 s.V id).f0, (rd_T43 s.V id).f1, (rd_T43 s.V id).f2, (rd_T43 s.V id).f3, (rd_T43 s.V id).f4, (rd_T43 s.V id).f5, (rd_T43 s.V id).f6, true⟩)⟩) := by
        unfold rcloseF
        rw [rexists_eq, if_neg c1, rd_rf hx.1 hx.2, if_neg (show ¬ (toV (rd_T43 s.V id)).f7 = true from c2)]
        rfl
      rw [e1, e2]
      show ((0 : Int), (⟨bOf s.D, (vOf s.V).set id.toNat _⟩ : Rf)) = (0, ⟨bOf s.D, vOf (s.V.set id.toNat _)⟩)
      unfold vOf
      rw [List.map_set]
theorem rgo_eq (h : Good s) (t u : Int) : ∀ (k : Nat) (i : Int), i < s.V.length → rgo (rfOf s).V t u k i = searchGo s (readP t u) k i
  | 0, i, hi => rfl
  | k + 1, i, hi => by
    simp only [rgo, searchGo]
    by_cases h0 : i < 0
    · rw [if_pos h0, if_pos h0]
    · rw [if_neg h0, if_neg h0, rd_rf (by omega) hi]
      have hp := h.par i (by omega) hi
      have ih := rgo_eq h t u k (rd_T43 s.V i).f1 (by omega)
      rw [hp.2.2]
      show (if (rd_T43 s.V i).f7 = true ∨ t < (rd_T43 s.V i).f3 ∨ u < (rd_T43 s.V i).f4 then rgo (rfOf s).V t u k (rd_T43 s.V i).f1 else i) = _
      rw [ih]
      unfold readP
      cases (rd_T43 s.V i).f7 with
      | true => simp
      | false =>
        by_cases c1 : (rd_T43 s.V i).f3 ≤ t
        · by_cases c2 : (rd_T43 s.V i).f4 ≤ u
          · rw [if_neg (by simp; omega), if_pos (by simp; omega)]
          · rw [if_pos (by simp; omega), if_neg (by simp; omega)]
        · rw [if_pos (by simp; omega), if_neg (by simp; omega)]
theorem rread_eq (h : Good2 s) (name : ByteArray) (t u : Int) : rreadF (rfOf s) name t u = readF s name t u := by
  rcases find_of h.keyed name with ⟨h1, h2⟩ | ⟨h1, h2, _⟩
  · unfold rreadF readF searchF
    rw [if_pos (show findR (rfOf s).B name < 0 by show findR (bOf s.D) name < 0; omega), h1]
    rfl
  · have hf := h.toGood.first h1
    have e : rgo (rfOf s).V t u ((rfOf s).V.length + 1) (firstR (rfOf s) name) = searchGo s (readP t u) (s.V.length + 1) (firstF (lkp s.D name)) := by
      rw [first_of h h1, rf_len, rgo_eq h.toGood t u _ _ hf.2]
    unfold rreadF readF searchF
    rw [if_neg (show ¬ findR (rfOf s).B name < 0 by show ¬ findR (bOf s.D) name < 0; omega), if_neg (show ¬ hasB s.D name = false by rw [h1]; decide), e]
    simp only [true_and]
    rcases search_found h.toGood (readP t u) (s.V.length + 1) (firstF (lkp s.D name)) hf.2 with h' | h'
    · rw [h']
    · rw [if_neg (by omega), if_neg (by omega)]
end
end Go.Proofs.Ytcbkcgnigncahaa.P
namespace Go.Proofs.Ytcbkcgnigncahaa.P
open Go.RowKit Go.Maps Go.Proofs.YtcbkcgnigncahaaW.PrintWords
set_option linter.unusedVariables false
set_option linter.unusedSimpArgs false
section
variable {s : Ln}
theorem rpublish_eq (h : Good2 s) (name : ByteArray) (a2 a3 a4 a5 : Int) :
    rpublishF (rfOf s) name a2 a3 a4 a5 = ((publishF s name a2 a3 a4 a5).1, (publishF s name a2 a3 a4 a5).2.1, ⟨(rfOf s).B, vOf (publishF s name a2 a3 a4 a5).2.2.V⟩) := by
  have hV := rf_len s
  rcases find_of h.keyed name with ⟨h1, h2⟩ | ⟨h1, h2, _⟩
  · have e1 : rpublishF (rfOf s) name a2 a3 a4 a5 = (0, 6, rfOf s) := by unfold rpublishF; rw [if_pos (show findR (rfOf s).B name < 0 by show findR (bOf s.D) name < 0; omega)]
    have e2 : publishF s name a2 a3 a4 a5 = (0, 6, s) := by unfold publishF; rw [if_pos h1]
    rw [e1, e2]; rfl
  · have n1 : ¬ findR (rfOf s).B name < 0 := by show ¬ findR (bOf s.D) name < 0; omega
    have n1' : ¬ hasB s.D name = false := by rw [h1]; decide
    have hf := h.toGood.first h1
    have hp := first_of h h1
    by_cases c2 : rangeB a2 a3 a4 = false
    · have e1 : rpublishF (rfOf s) name a2 a3 a4 a5 = (0, 1, rfOf s) := by unfold rpublishF; rw [if_neg n1, if_pos c2]
      have e2 : publishF s name a2 a3 a4 a5 = (0, 1, s) := by unfold publishF; rw [if_neg n1', if_pos c2]
      rw [e1, e2]; rfl
    · by_cases c3 : 0 ≤ firstF (lkp s.D name) ∧ a3 < (rd_T43 s.V (firstF (lkp s.D name))).f4
      · have c3' : 0 ≤ firstR (rfOf s) name ∧ a3 < (rd_T92 (rfOf s).V (firstR (rfOf s) name)).f4 := by rw [hp, rd_rf c3.1 hf.2]; exact c3
        have e1 : rpublishF (rfOf s) name a2 a3 a4 a5 = (0, 16, rfOf s) := by unfold rpublishF; rw [if_neg n1, if_neg c2, if_pos c3']
        have e2 : publishF s name a2 a3 a4 a5 = (0, 16, s) := by unfold publishF; rw [if_neg n1', if_neg c2, if_pos c3]
        rw [e1, e2]; rfl
      · have c3' : ¬ (0 ≤ firstR (rfOf s) name ∧ a3 < (rd_T92 (rfOf s).V (firstR (rfOf s) name)).f4) := by
          rw [hp]
          rintro ⟨a, b⟩
          rw [rd_rf a hf.2] at b
          exact c3 ⟨a, b⟩
        by_cases c4 : 1024 ≤ s.V.length
        · have e1 : rpublishF (rfOf s) name a2 a3 a4 a5 = (0, 4, rfOf s) := by unfold rpublishF; rw [if_neg n1, if_neg c2, if_neg c3', hV, if_pos c4]
          have e2 : publishF s name a2 a3 a4 a5 = (0, 4, s) := by unfold publishF; rw [if_neg n1', if_neg c2, if_neg c3, if_pos c4]
          rw [e1, e2]; rfl
        · have e1 : rpublishF (rfOf s) name a2 a3 a4 a5 = ((s.V.length : Int), 0, ⟨(rfOf s).B, (rfOf s).V ++ [⟨(s.V.length : Int), firstF (lkp s.D name), name, a2, a3, a4, a5, false⟩]⟩) := by unfold rpublishF; rw [if_neg n1, if_neg c2, if_neg c3', hV, if_neg c4, hp]
          have e2 : publishF s name a2 a3 a4 a5 = ((s.V.length : Int), 0, ⟨s.D.put (keyB name) (lnD (lkp s.D name).1 (s.V.length : Int)), s.V ++ [⟨(s.V.length : Int), firstF (lkp s.D name), name, a2, a3, a4, a5, false⟩]⟩) := by unfold publishF; rw [if_neg n1', if_neg c2, if_neg c3, if_neg c4]
          rw [e1, e2]
          show ((s.V.length : Int), (0 : Int), (⟨bOf s.D, vOf s.V ++ [_]⟩ : Rf)) = ((s.V.length : Int), 0, ⟨bOf s.D, vOf (s.V ++ [_])⟩)
          unfold vOf
          rw [List.map_append]
          rfl
/-- A store at a key that is there, with the base that stood there, leaves names and bases as they are. -/
theorem bOf_put_same {name : ByteArray} (h : Good2 s) (hn : hasB s.D name = true) (l : Int) : bOf (s.D.put (keyB name) (lnD (lkp s.D name).1 l)) = bOf s.D := by
  obtain ⟨es, he, hp⟩ := h.ris
  obtain ⟨es', he', hk⟩ := h.keyed
  obtain rfl : es = es' := by rw [he] at he'; injection he'
  have hs := keyed_all hk
  obtain ⟨b, hb⟩ : ∃ b, (lkp s.D name).1 = b := ⟨_, rfl⟩
  rw [hb]
  unfold lkp at hb
  unfold hasB at hn
  rw [he] at hn hb ⊢
  rw [has_eq] at hn
  clear he he' hk h
  show ((DataW.insert (keyB name, lnD b l) (es.filter (fun p => !p.1.sameKey (keyB name)))).map toB) = es.map toB
  induction es with
  | nil => simp at hn
  | cons p es ih =>
    rw [List.pairwise_cons] at hp
    have hps := hs p List.mem_cons_self
    have hkp := str_key hps
    by_cases hsame : p.1.sameKey (keyB name) = true
    · have hpe : p.1 = keyB name := WideAt.sameKey_eq hsame
      have hrest : es.filter (fun p => !p.1.sameKey (keyB name)) = es := by
        rw [List.filter_eq_self]
        intro q hq
        have hb2 := hp.1 q hq
        cases e : q.1.sameKey (keyB name) with
        | false => rfl
        | true =>
          have hqe := WideAt.sameKey_eq e
          have : p.1.before q.1 = true := hb2
          rw [hpe, hqe] at this
          rw [show (keyB name).before (keyB name) = bytesBefore name.data.toList name.data.toList from rfl, WideAt.bytes_irrefl] at this
          cases this
      rw [List.filter_cons, if_neg (by rw [hsame]; decide), hrest]
      have hb' : (lkD p.2).1 = b := by
        rw [← hb]
        unfold DataW.atKey
        simp only [List.find?_cons, hsame]
      have hins : DataW.insert (keyB name, lnD b l) es = (keyB name, lnD b l) :: es := by
        cases es with
        | nil => rfl
        | cons q r =>
          have hb2 := hp.1 q List.mem_cons_self
          have : (keyB name).before q.1 = true := by rw [← hpe]; exact hb2
          simp only [DataW.insert]
          rw [if_pos this]
      rw [hins, List.map_cons, List.map_cons]
      congr 1
      unfold toB
      simp only
      rw [hpe, hb']
      rfl
    · have hsf : p.1.sameKey (keyB name) = false := by simpa using hsame
      rw [List.filter_cons, if_pos (by rw [hsf]; rfl)]
      have hn' : es.any (fun p => p.1.sameKey (keyB name)) = true := by simpa [hsf] using hn
      have hb' : (lkD ((DataW.map es).atKey (keyB name) (lnD 0 0))).1 = b := by
        rw [← hb]
        unfold DataW.atKey
        simp only [List.find?_cons, hsf]
      have ih' : ((DataW.insert (keyB name, lnD b l) (es.filter (fun p => !p.1.sameKey (keyB name)))).map toB) = es.map toB := by
        refine ih ?_ ?_ ?_ ?_
        all_goals first
          | exact hn'
          | exact hp.2
          | exact hb'
          | exact (fun q hq => hs q (List.mem_cons_of_mem _ hq))
      have hnb : (keyB name).before p.1 = false := by
        rw [List.any_eq_true] at hn'
        obtain ⟨q, hq, hqs⟩ := hn'
        have hqe := WideAt.sameKey_eq hqs
        have hbq : p.1.before q.1 = true := hp.1 q hq
        cases e : (keyB name).before p.1 with
        | false => rfl
        | true =>
          have := before_trans (a := keyB name) (b := p.1) (c := q.1) rfl hps (hs q (List.mem_cons_of_mem _ hq)) e hbq
          rw [hqe] at this
          rw [show (keyB name).before (keyB name) = bytesBefore name.data.toList name.data.toList from rfl, WideAt.bytes_irrefl] at this
          cases this
      simp only [DataW.insert]
      rw [if_neg (by rw [hnb]; decide), List.map_cons, List.map_cons, ih']
theorem rpublish_rf (h : Good2 s) (name : ByteArray) (a2 a3 a4 a5 : Int) : (⟨(rfOf s).B, vOf (publishF s name a2 a3 a4 a5).2.2.V⟩ : Rf) = rfOf (publishF s name a2 a3 a4 a5).2.2 := by
  show (⟨bOf s.D, _⟩ : Rf) = ⟨bOf (publishF s name a2 a3 a4 a5).2.2.D, _⟩
  congr 1
  unfold publishF
  split
  · rfl
  rename_i h1
  split
  · rfl
  split
  · rfl
  split
  · rfl
  · exact (bOf_put_same h (by simpa using h1) _).symm
theorem put_ris {D : DataW Unit} {name : ByteArray} (h : ∃ es, D = .map es ∧ es.Pairwise beforeP) (hk : Keyed D) (d : DataW Unit) : ∃ es, D.put (keyB name) d = .map es ∧ es.Pairwise beforeP := by
  obtain ⟨es, rfl, hp⟩ := h
  obtain ⟨es', he', hk⟩ := hk
  obtain rfl : es = es' := by injection he'
  have hs := keyed_all hk
  refine ⟨_, rfl, ins_pw rfl (fun p hp => hs p (List.mem_filter.1 hp).1) (fun p hp e => ?_) (hp.filter _)⟩
  have := (List.mem_filter.1 hp).2
  rw [e] at this
  simp [keyB, Lit.sameKey] at this
theorem good2_0 : Good2 Ln0 := ⟨good0, ⟨[], rfl, List.Pairwise.nil⟩, fun name h => absurd h (by simp [Ln0, hasB, Maps.has, has_eq]), fun i h0 h1 => absurd h1 (by simp [Ln0]; omega)⟩
theorem Good2.fork (h : Good2 s) (name : ByteArray) (fr : Int) : Good2 (forkF s name fr).2 := by
  have hg := h.toGood.fork name fr
  revert hg
  unfold forkF
  split
  · exact fun _ => h
  split
  · exact fun _ => h
  rename_i h2
  split
  · exact fun _ => h
  split
  · exact fun _ => h
  split
  · exact fun _ => h
  intro hg
  have hnb : hasB s.D name = false := by simpa using h2
  refine ⟨hg, put_ris h.ris h.keyed _, fun x hx => ?_, fun i h0 h1 => ?_⟩
  · by_cases e : x = name
    · subst e
      rw [show lkp (⟨s.D.put (keyB x) (lnD fr (-1)), s.V⟩ : Ln).D x = (fr, -1) from lkp_put_same h.tidy _ _ _]
      symm
      refine lastR_none _ (fun j hj e => ?_)
      have hb := h.branch j (by omega) (by exact_mod_cast hj)
      rw [rd_vOf (by omega) (by exact_mod_cast hj)] at e
      rw [show (rd_T43 s.V (j : Int)).f2 = x from e, hnb] at hb
      cases hb
    · rw [show lkp (⟨s.D.put (keyB name) (lnD fr (-1)), s.V⟩ : Ln).D x = lkp s.D x from lkp_put_other e _]
      exact h.last x (by rw [← hasB_put_other e]; exact hx)
  · have := h.branch i h0 h1
    by_cases e : (rd_T43 s.V i).f2 = name
    · rw [e] at this; rw [hnb] at this; cases this
    · exact (hasB_put_other e _).trans this
theorem Good2.publish (h : Good2 s) (name : ByteArray) (a2 a3 a4 a5 : Int) : Good2 (publishF s name a2 a3 a4 a5).2.2 := by
  have hg := h.toGood.publish name a2 a3 a4 a5
  revert hg
  unfold publishF
  split
  · exact fun _ => h
  rename_i h1
  have hnb : hasB s.D name = true := by simpa using h1
  split
  · exact fun _ => h
  split
  · exact fun _ => h
  split
  · exact fun _ => h
  intro hg
  have hhas : ∀ x, hasB (s.D.put (keyB name) (lnD (lkp s.D name).1 (s.V.length : Int))) x = hasB s.D x := by
    intro x
    by_cases e : x = name
    · subst e; rw [hasB_put_same h.tidy, hnb]
    · exact hasB_put_other e _
  refine ⟨hg, put_ris h.ris h.keyed _, fun x hx => ?_, fun i h0 hi => ?_⟩
  · have hlen : (s.V ++ [(⟨(s.V.length : Int), firstF (lkp s.D name), name, a2, a3, a4, a5, false⟩ : S43)]).length = s.V.length + 1 := by simp
    have hnew : (rd_T92 (vOf (s.V ++ [(⟨(s.V.length : Int), firstF (lkp s.D name), name, a2, a3, a4, a5, false⟩ : S43)])) (s.V.length : Int)).f2 = name := by
      rw [rd_vOf (by omega) (by rw [hlen]; omega), rd_append_new _ _ _ rfl]
      rfl
    have hold : lastR (vOf (s.V ++ [(⟨(s.V.length : Int), firstF (lkp s.D name), name, a2, a3, a4, a5, false⟩ : S43)])) x s.V.length = lastR (vOf s.V) x s.V.length := by
      refine lastR_agree _ (fun j hj => ?_)
      rw [rd_vOf (by omega) (by rw [hlen]; omega), rd_vOf (by omega) (by omega), rd_append_left (by omega) (by omega)]
    show (lkp (s.D.put (keyB name) (lnD (lkp s.D name).1 (s.V.length : Int))) x).2 = lastR _ x (s.V ++ [_]).length
    rw [hlen]
    simp only [lastR]
    rw [hnew, hold]
    by_cases e : x = name
    · subst e
      rw [if_pos rfl, lkp_put_same h.tidy]
    · rw [if_neg (fun e2 => e e2.symm), lkp_put_other e]
      exact h.last x (by rw [← hhas x]; exact hx)
  · simp only [List.length_append, List.length_singleton] at hi
    show hasB (s.D.put (keyB name) (lnD (lkp s.D name).1 (s.V.length : Int))) _ = true
    rw [hhas]
    by_cases hlt : i < s.V.length
    · rw [rd_append_left h0 hlt]
      exact h.branch i h0 hlt
    · rw [rd_append_new _ _ _ (by omega)]
      exact hnb
theorem Good2.close (h : Good2 s) (id : Int) : Good2 (closeF s id).2 := by
  have hg := h.toGood.close id
  revert hg
  unfold closeF
  split
  · exact fun _ => h
  rename_i h1
  have hx := exists_true (s := s) (id := id) (by simpa using h1)
  split
  · exact fun _ => h
  intro hg
  have hf2 : ∀ j : Int, 0 ≤ j → j < s.V.length → (rd_T43 (s.V.set id.toNat ⟨(rd_T43 s.V id).f0, (rd_T43 s.V id).f1, (rd_T43 s.V id).f2, (rd_T43 s.V id).f3, (rd_T43 s.V id).f4, (rd_T43 s.V id).f5, (rd_T43 s.V id).f6, true⟩) j).f2 = (rd_T43 s.V j).f2 := by
    intro j h0 hj
    by_cases e : j = id
    · subst e; rw [rd_set_same _ _ _ h0 hj]
    · rw [rd_set_other _ _ _ _ hx.1 h0 e]
  refine ⟨hg, h.ris, fun x hb => ?_, fun i h0 hi => ?_⟩
  · show (lkp s.D x).2 = lastR (vOf (s.V.set id.toNat _)) x (s.V.set id.toNat _).length
    rw [List.length_set, h.last x hb]
    symm
    refine lastR_agree _ (fun j hj => ?_)
    rw [rd_vOf (by omega) (by rw [List.length_set]; omega), rd_vOf (by omega) (by omega)]
    exact hf2 j (by omega) (by omega)
  · simp only [List.length_set] at hi
    rw [hf2 i h0 hi]
    exact h.branch i h0 hi
theorem Good2.do_ (h : Good2 s) (o : S38) : Good2 (doF s o).2.2 := by
  unfold doF
  split
  · exact h.fork _ _
  split
  · exact h.close _
  · exact h.publish _ _ _ _ _
theorem rdo_eq (h : Good2 s) (o : S38) : rdoF (rfOf s) o = ((doF s o).1, (doF s o).2.1, rfOf (doF s o).2.2) := by
  unfold rdoF doF
  by_cases c0 : o.f0 = 0
  · rw [if_pos c0, if_pos c0, rfork_eq h]
  · rw [if_neg c0, if_neg c0]
    by_cases c2 : o.f0 = 2
    · rw [if_pos c2, if_pos c2, rclose_eq]
    · rw [if_neg c2, if_neg c2, rpublish_eq h, rpublish_rf h]
end
end Go.Proofs.Ytcbkcgnigncahaa.P
namespace Go.Proofs.Ytcbkcgnigncahaa.P
open Go.RowKit Go.Maps Go.Proofs.YtcbkcgnigncahaaW.PrintWords Go.Proofs.YtcbkcgnigncahaaW.PrintLast
set_option linter.unusedVariables false
set_option linter.unusedSimpArgs false
theorem texts_loop (l : List ByteArray) (hl : l.length ≤ 1000000) : ∀ (d : Nat) (i : Int) (k : Nat), (l.length : Int) - i = d → 0 ≤ i → d < k → skymosaicref01_SameTexts.l0 k l l i = some true := by
  intro d
  induction d with
  | zero =>
    intro i k hd h0 hk
    obtain ⟨k, rfl⟩ : ∃ m, k = m + 1 := ⟨k - 1, by omega⟩
    simp only [skymosaicref01_SameTexts.l0]
    rw [if_neg (by omega)]
  | succ d ih =>
    intro i k hd h0 hk
    obtain ⟨k, rfl⟩ : ∃ m, k = m + 1 := ⟨k - 1, by omega⟩
    simp only [skymosaicref01_SameTexts.l0]
    rw [if_pos (by omega), if_pos h0, if_pos (by omega), if_pos trivial, w64 (by omega)]
    exact ih (i + 1) k (by omega) (by omega) (by omega)
theorem texts_same (l : List ByteArray) (hl : l.length ≤ 1000000) : skymosaicref01_SameTexts.f (l.length + 1) l l = some true := by
  unfold skymosaicref01_SameTexts.f
  rw [if_pos rfl]
  exact texts_loop l hl l.length 0 (l.length + 1) (by omega) (by omega) (by omega)
theorem same_f (x : S43) : skymosaiclaw31_same.f x.f0 x.f1 x.f2 x.f3 x.f4 x.f5 x.f6 x.f7 x.f0 x.f1 x.f2 x.f3 x.f4 x.f5 x.f6 x.f7 = some true := by
  unfold skymosaiclaw31_same.f
  simp
section
variable {s : Ln}
theorem rf_ok (h : Good s) : ∀ i : Int, 0 ≤ i → i < (rfOf s).V.length → (rd_T92 (rfOf s).V i).f1 < i := by
  intro i h0 h1
  rw [rf_len] at h1
  rw [rd_rf h0 h1]
  exact (h.par i h0 h1).2.1
/-- Where the times are in range, the head is what is read at times beyond all. -/
structure Good3 (s : Ln) : Prop extends Good2 s where
  times : ∀ i : Int, 0 ≤ i → i < s.V.length → (rd_T43 s.V i).f3 ≤ 1099511627776 ∧ (rd_T43 s.V i).f4 ≤ 1099511627776
theorem search_big (h : Good3 s) : ∀ (k : Nat) (i : Int), i < s.V.length → searchGo s (readP 4611686018427387904 4611686018427387904) k i = searchGo s (fun _ => true) k i
  | 0, _, _ => rfl
  | k + 1, i, hi => by
    simp only [searchGo]
    by_cases h0 : i < 0
    · rw [if_pos h0, if_pos h0]
    · rw [if_neg h0, if_neg h0]
      have ht := h.times i (by omega) hi
      have hp := h.par i (by omega) hi
      have : readP 4611686018427387904 4611686018427387904 (rd_T43 s.V i) = true := by
        unfold readP
        simp
        omega
      rw [this, search_big h k _ (by omega)]
theorem rhead_eq (h : Good3 s) (name : ByteArray) : rheadF (rfOf s) name = headF s name := by
  unfold rheadF
  rw [rread_eq h.toGood2]
  unfold headF readF
  have key : searchF s name (readP 4611686018427387904 4611686018427387904) = searchF s name (fun _ => true) := by
    unfold searchF
    by_cases hb : hasB s.D name = false
    · rw [if_pos hb, if_pos hb]
    · rw [if_neg hb, if_neg hb]
      have := h.first (by simpa using hb)
      rw [search_big h _ _ this.2]
  rw [key]
  by_cases hb : hasB s.D name = false
  · have e : searchF s name (fun _ => true) = (-1, 6) := by unfold searchF; rw [if_pos hb]
    rw [e]; rfl
  · have hb' : hasB s.D name = true := by simpa using hb
    have hf := h.first hb'
    have e : searchF s name (fun _ => true) = (searchGo s (fun _ => true) (s.V.length + 1) (firstF (lkp s.D name)), 0) := by unfold searchF; rw [if_neg hb]
    rw [e]
    rcases search_found h.toGood (fun _ => true) (s.V.length + 1) (firstF (lkp s.D name)) hf.2 with h' | h'
    · rw [h']; rfl
    · obtain ⟨v, hv⟩ : ∃ v, searchGo s (fun _ => true) (s.V.length + 1) (firstF (lkp s.D name)) = v := ⟨_, rfl⟩
      rw [hv] at h' ⊢
      have : ¬ v < 0 := by omega
      simp [this]
theorem Good3.do_ (h : Good3 s) (o : S38) : Good3 (doF s o).2.2 := by
  refine ⟨h.toGood2.do_ o, ?_⟩
  unfold doF
  split
  · unfold forkF
    split
    · exact h.times
    split
    · exact h.times
    split
    · exact h.times
    split
    · exact h.times
    split
    · exact h.times
    · exact h.times
  split
  · unfold closeF
    split
    · exact h.times
    rename_i h1
    have hx := exists_true (s := s) (id := o.f2) (by simpa using h1)
    split
    · exact h.times
    · intro i h0 hi
      simp only [List.length_set] at hi
      by_cases e : i = o.f2
      · subst e
        rw [rd_set_same _ _ _ h0 hi]
        exact h.times _ h0 hi
      · rw [rd_set_other _ _ _ _ hx.1 h0 e]
        exact h.times i h0 hi
  · unfold publishF
    split
    · exact h.times
    split
    · exact h.times
    rename_i h2
    split
    · exact h.times
    split
    · exact h.times
    · intro i h0 hi
      simp only [List.length_append, List.length_singleton] at hi
      by_cases hlt : i < s.V.length
      · rw [rd_append_left h0 hlt]
        exact h.times i h0 hlt
      · rw [rd_append_new _ _ _ (by omega)]
        have h2' : rangeB o.f3 o.f4 o.f5 = true := by simpa using h2
        unfold rangeB tickB at h2'
        simp only [Bool.and_eq_true, decide_eq_true_eq] at h2'
        exact ⟨h2'.1.2, h2'.2.1.2⟩
theorem good3_0 : Good3 Ln0 := ⟨good2_0, fun i h0 h1 => absurd h1 (by simp [Ln0]; omega)⟩
end
end Go.Proofs.Ytcbkcgnigncahaa.P
