/- Pairs that are written as a form are read as they were. -/
import Derived.Test.YtkaacdfikaggfaaSemUri4
import Derived.Test.YtkaacdfikaggfaaPAx5
namespace Go.Proofs.Ytkaacdfikaggfaa.Sem
open Go.RowKit Go.Proofs.YtkaacdfikaggfaaW.PrintWords Go.Proofs.Ytkaacdfikaggfaa.PA Go.Proofs.Ytkaacdfikaggfaa.Bs Go.Proofs.Ytkaacdfikaggfaa.UriF Go.Proofs.Ytkaacdfikaggfaa.UriD
set_option linter.unusedVariables false
def prS (x : S52) : ByteArray := encS x.f0 ++ (⟨#[61]⟩ : ByteArray) ++ encS x.f1
def prL (x : S52) : List Int := encL (bytesOf x.f0) ++ 61 :: encL (bytesOf x.f1)
theorem bytes_prS (x : S52) : bytesOf (prS x) = prL x := by
  unfold prS prL
  rw [bytesOf_append, bytesOf_append, bytes_encS, bytes_encS]
  show _ ++ [61] ++ _ = _
  simp
def bkL (l : List S52) : Nat := (l.map fun e_ => ((e_.f0.size + 1) + (e_.f1.size + 1))).sum
theorem prS_size (x : S52) : (prS x).size ≤ 3 * ((x.f0.size + 1) + (x.f1.size + 1)) := by
  have h0 := size_encS x.f0
  have h1 := size_encS x.f1
  have e : (⟨#[61]⟩ : ByteArray).size = 1 := rfl
  unfold prS
  rw [ByteArray.size_append, ByteArray.size_append, e]; omega
theorem le_bkL : ∀ (l : List S52) (x : S52), x ∈ l → (x.f0.size + 1) + (x.f1.size + 1) ≤ bkL l := by
  intro l
  induction l with
  | nil => intro x hx; cases hx
  | cons y r ih =>
    intro x hx
    have e : bkL (y :: r) = ((y.f0.size + 1) + (y.f1.size + 1)) + bkL r := by simp [bkL]
    rcases List.mem_cons.1 hx with rfl | hx
    · omega
    · have := ih x hx; omega
theorem print_l0 (l : List S52) (hb : bkL l ≤ 1048576) (hl : l.length ≤ 1048576) : ∀ (d i k : Nat) (acc : List ByteArray), l.length - i = d → i ≤ l.length → d < k → acc.length ≤ i → uri_Print.l0 k acc l (l.length : Int) i = Hand.joinF (acc ++ (l.drop i).map prS) (⟨#[38]⟩ : ByteArray) := by
  intro d
  induction d with
  | zero =>
    intro i k acc hd hi hk ha
    obtain ⟨k, rfl⟩ : ∃ m, k = m + 1 := ⟨k - 1, by omega⟩
    simp only [uri_Print.l0]
    rw [if_neg (by omega), List.drop_of_length_le (by omega)]
    unfold strings_Join.f
    simp
  | succ d ih =>
    intro i k acc hd hi hk ha
    obtain ⟨k, rfl⟩ : ∃ m, k = m + 1 := ⟨k - 1, by omega⟩
    have hlt : i < l.length := by omega
    have hmem : ∀ x ∈ l, x.f0.size ≤ 1048576 ∧ x.f1.size ≤ 1048576 := by
      intro x hx
      have : (x.f0.size + 1) + (x.f1.size + 1) ≤ bkL l := le_bkL l x hx
      omega
    have hx := hmem l[i] (List.getElem_mem _)
    have h0 := size_encS l[i].f0
    have h1 := size_encS l[i].f1
    have hr : rd_T52 l (i : Int) = l[i] := by simp [rd_T52, List.getD_eq_getElem?_getD, List.getElem?_eq_getElem hlt]
    simp only [uri_Print.l0]
    rw [if_pos (by omega), if_pos (by omega), if_pos (by omega), hr]
    have e0 : uri_Encode.f l[i].f0 = some (encS l[i].f0) := by unfold uri_Encode.f encodeF; rw [if_pos (by omega)]; rfl
    have e1 : uri_Encode.f l[i].f1 = some (encS l[i].f1) := by unfold uri_Encode.f encodeF; rw [if_pos (by omega)]; rfl
    have ee : (⟨#[61]⟩ : ByteArray).size = 1 := rfl
    rw [e0, Option.bind_some, if_pos (by omega), e1, Option.bind_some, if_pos (by rw [ByteArray.size_append, ee]; omega), if_pos (by omega), w64s hlt (by omega)]
    rw [ih (i + 1) k _ (by omega) (by omega) (by omega) (by simp; omega), List.drop_eq_getElem_cons hlt, List.map_cons, List.append_assoc]
    rfl
def jL : List (List Int) → List Int
  | [] => []
  | [x] => x
  | x :: y :: r => x ++ 38 :: jL (y :: r)
def jb (l : List UInt8) : List Int := l.map fun b => (b.toNat : Int)
theorem jb_append (a b : List UInt8) : jb (a ++ b) = jb a ++ jb b := by simp [jb]
theorem join_next (x y : List UInt8) (r : List (List UInt8)) (sep : List UInt8) : Lib.join (x :: y :: r) sep = x ++ (sep ++ Lib.join (y :: r) sep) := by
  rw [Lib.join_cons, Lib.join_cons]; simp [Lib.joinTail]
theorem jb_join : ∀ (l : List ByteArray), jb (Lib.join (l.map (·.data.toList)) (⟨#[38]⟩ : ByteArray).data.toList) = jL (l.map bytesOf)
  | [] => rfl
  | [x] => by rw [List.map_cons, List.map_nil, Lib.join_one]; rfl
  | x :: y :: r => by
    have ih := jb_join (y :: r)
    rw [List.map_cons, List.map_cons, join_next, jb_append, jb_append]
    rw [List.map_cons] at ih
    rw [ih]; rfl
theorem bytes_join (l : List ByteArray) : bytesOf ⟨(Lib.join (l.map (·.data.toList)) (⟨#[38]⟩ : ByteArray).data.toList).toArray⟩ = jL (l.map bytesOf) := by
  rw [← jb_join]; rfl
theorem jL_len : ∀ (l : List (List Int)), (jL l).length ≤ (l.map (fun x => x.length + 1)).sum
  | [] => by simp [jL]
  | [x] => by simp [jL]
  | x :: y :: r => by
    have ih := jL_len (y :: r)
    simp only [jL, List.map_cons, List.sum_cons, List.length_append, List.length_cons] at *
    omega
theorem prL_ok (x : S52) : (∀ y ∈ prL x, isByte y) ∧ (38 : Int) ∉ prL x := by
  have h0 := encL_ok (bytesOf_byte x.f0)
  have h1 := encL_ok (bytesOf_byte x.f1)
  unfold okB at h0 h1
  unfold prL
  constructor
  · intro y hy
    unfold isByte
    rcases List.mem_append.1 hy with hy | hy
    · have := h0 y hy; omega
    · rcases List.mem_cons.1 hy with rfl | hy
      · omega
      · have := h1 y hy; omega
  · intro hy
    rcases List.mem_append.1 hy with hy | hy
    · exact (h0 38 hy).2.2.1 rfl
    · rcases List.mem_cons.1 hy with hy | hy
      · cases hy
      · exact (h1 38 hy).2.2.1 rfl
theorem idxL_first (c : Int) : ∀ (a b : List Int), c ∉ a → idxL c (a ++ c :: b) = a.length := by
  intro a
  induction a with
  | nil => intro b _; simp [idxL]
  | cons x a ih =>
    intro b h
    simp only [List.mem_cons, not_or] at h
    simp only [List.cons_append, idxL, if_neg (Ne.symm h.1), ih b h.2]
    rw [if_neg (by omega)]; simp
theorem step_pr (st : List (ByteArray × ByteArray)) (x : S52) (at_ : Int) : formStep (st, 0, 0) (strOfNums (prL x)) at_ = ((st ++ [(x.f0, x.f1)], 0, 0), true) := by
  have h0 := encL_ok (bytesOf_byte x.f0)
  unfold okB at h0
  have hb : bytesOf (strOfNums (prL x)) = prL x := bytesOf_strOfNums (prL_ok x).1
  have hi : idxL 61 (bytesOf (strOfNums (prL x))) = ((encL (bytesOf x.f0)).length : Int) := by
    rw [hb]
    exact idxL_first 61 _ _ (fun h => (h0 61 h).2.2.2.1 rfl)
  have hz : (strOfNums (prL x)).size = (prL x).length := size_strOfNums _
  have hl : (prL x).length = (encL (bytesOf x.f0)).length + 1 + (encL (bytesOf x.f1)).length := by unfold prL; simp; omega
  have c1 : (strOfNums (prL x)).extract 0 (encL (bytesOf x.f0)).length = encS x.f0 := by
    apply bytesOf_inj
    rw [bytes_encS, bytesOf_slice _ _ _ (Nat.zero_le _), hb, List.drop_zero, Nat.sub_zero]
    unfold prL
    exact List.take_left
  have c2 : (strOfNums (prL x)).extract ((encL (bytesOf x.f0)).length + 1) (strOfNums (prL x)).size = encS x.f1 := by
    apply bytesOf_inj
    rw [bytes_encS, bytes_tail, hb]
    unfold prL
    rw [show (encL (bytesOf x.f0)) ++ 61 :: encL (bytesOf x.f1) = ((encL (bytesOf x.f0)) ++ [61]) ++ encL (bytesOf x.f1) by simp, show (encL (bytesOf x.f0)).length + 1 = ((encL (bytesOf x.f0)) ++ [61]).length by simp]
    exact List.drop_left
  unfold formStep
  rw [if_neg (by omega), cutR_some hi, c1, c2, decode_encS, decode_encS]
  simp
theorem fold_pr : ∀ (l : List S52) (st : List (ByteArray × ByteArray)) (i : Int), l ≠ [] → foldP formStep (st, 0, 0) (pcs 38 (jL (l.map prL)) [] i i) = (st ++ l.map (fun x => (x.f0, x.f1)), 0, 0)
  | [], _, _, h => absurd rfl h
  | [x], st, i, _ => by
    simp only [List.map_cons, List.map_nil, jL]
    rw [pcs_none 38 _ _ _ _ (prL_ok x).2, List.nil_append, foldP_one, step_pr]
  | x :: y :: r, st, i, _ => by
    have ih := fold_pr (y :: r) (st ++ [(x.f0, x.f1)]) (i + (prL x).length + 1) (by simp)
    simp only [List.map_cons, jL] at *
    rw [pcs_some 38 _ _ _ _ _ (prL_ok x).2, List.nil_append, foldP, step_pr]
    simp only [if_true]
    rw [ih]; simp
theorem formSt_join (l : List S52) (s : ByteArray) (hs : bytesOf s = jL (l.map prL)) : formSt s = (l.map (fun x => (x.f0, x.f1)), 0, 0) := by
  unfold formSt
  rw [hs]
  cases l with
  | nil =>
    simp only [List.map_nil, jL, pcs, foldP_one]
    rfl
  | cons x r => rw [fold_pr (x :: r) [] 0 (by simp)]; simp
theorem print_eq (l : List S52) (hb : bkL l ≤ 1048576) (hl : l.length ≤ 1048576) (k : Nat) (hk : l.length < k) : ∃ s, uri_Print.f k l = some s ∧ bytesOf s = jL (l.map prL) ∧ s.size ≤ 8000000 := by
  have h := print_l0 l hb hl l.length 0 k [] (by omega) (by omega) hk (by simp)
  unfold uri_Print.f
  rw [show ((0 : Nat) : Int) = 0 from rfl] at h
  rw [h, List.nil_append, List.drop_zero]
  have hj := bytes_join (l.map prS)
  rw [List.map_map (f := prS) (g := bytesOf), show (bytesOf ∘ prS) = prL from funext fun x => bytes_prS x] at hj
  have hlen := jL_len (l.map prL)
  have hsum : ((l.map prL).map (fun x => x.length + 1)).sum ≤ 4 * bkL l := by
    unfold bkL
    clear h hj hlen hb hl hk
    induction l with
    | nil => simp
    | cons x r ih =>
      have := prS_size x
      rw [← bytesOf_length, bytes_prS] at this
      simp only [List.map_cons, List.sum_cons] at *
      omega
  have hz : (Lib.join ((l.map prS).map (·.data.toList)) (⟨#[38]⟩ : ByteArray).data.toList).length ≤ 8000000 := by
    have e : (bytesOf ⟨(Lib.join ((l.map prS).map (·.data.toList)) (⟨#[38]⟩ : ByteArray).data.toList).toArray⟩).length = (Lib.join ((l.map prS).map (·.data.toList)) (⟨#[38]⟩ : ByteArray).data.toList).length := by simp [bytesOf]
    rw [← e, hj]; omega
  refine ⟨⟨(Lib.join ((l.map prS).map (·.data.toList)) (⟨#[38]⟩ : ByteArray).data.toList).toArray⟩, ?_, hj, ?_⟩
  · unfold Hand.joinF
    rw [if_pos (by omega), if_pos (by simp; omega)]
  · show (Array.size _) ≤ _
    simpa using hz
end Go.Proofs.Ytkaacdfikaggfaa.Sem
