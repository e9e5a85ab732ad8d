/- Which functions the law's function leads to. No condition. -/
import GoSem.ClaimFn
import Derived.Test.YtbmekbpgoakkbaaGreatDoorVxJ
import Derived.Test.YtbmekbpgoakkbaaGreatDoorRows
set_option linter.all false
namespace Go.Proofs.YtbmekbpgoakkbaaGreatDoor.Vx
open Go

noncomputable def leads (P : Program) (f : FuncId) : List FuncId := (P.funcs[f]?).elim [] P.leadsTo
noncomputable def leqN (a : List Nat) : List Nat → Bool := List.rec (motive := fun _ => List Nat → Bool) (fun b => List.rec (motive := fun _ => Bool) true (fun _ _ _ => false) b) (fun x _ ih b => List.rec (motive := fun _ => Bool) false (fun y ys _ => bc (Nat.beq x y) (ih ys) false) b) a
theorem leqN_ok : ∀ {a b : List Nat}, leqN a b = true → a = b
  | [], [], _ => rfl
  | [], _ :: _, h => by cases h
  | _ :: _, [], h => by cases h
  | x :: a, y :: b, h => by
    have h : bc (Nat.beq x y) (leqN a b) false = true := h
    obtain ⟨h1, h2⟩ := bc_and h
    rw [Nat.eq_of_beq_eq_true h1, leqN_ok h2]

noncomputable def bitC (m f : Nat) : Bool := Nat.beq (Nat.land (Nat.shiftRight m f) 1) 1
theorem bitC_eq (m f : Nat) : bitC m f = Nat.testBit m f := by
  unfold bitC Nat.testBit
  show Nat.beq ((m >>> f) &&& 1) 1 = (1 &&& (m >>> f) != 0)
  rw [Nat.and_comm 1, Nat.and_one_is_mod]
  rcases Nat.mod_two_eq_zero_or_one (m >>> f) with h | h <;> rw [h] <;> rfl

noncomputable def goB (L : Nat → List Nat) (n : Nat) : List Nat → Nat → List Nat → (List Nat → Bool) → Bool :=
  Nat.rec (motive := fun _ => List Nat → Nat → List Nat → (List Nat → Bool) → Bool) (fun _ _ s k => k s)
    (fun _ ih todo => List.rec (motive := fun _ => Nat → List Nat → (List Nat → Bool) → Bool) (fun _ s k => k s)
      (fun f rest _ m s k => forceN f fun f => bc (bitC m f) (ih rest m s k) (forceN (Nat.lor m (Nat.shiftLeft 1 f)) fun m' => ih (List.append (L f) rest) m' (List.cons f s) k)) todo) n

theorem goB_eq {P : Program} : ∀ (n : Nat) (todo : List Nat) (m : Nat) (s : List Nat) (k : List Nat → Bool), (∀ x, Nat.testBit m x = s.contains x) →
    goB (leads P) n todo m s k = k (P.closureVia n todo s).reverse
  | 0, todo, m, s, k, _ => by
    show k s = k (s.reverse).reverse
    rw [List.reverse_reverse]
  | n + 1, [], m, s, k, _ => by
    show k s = k (s.reverse).reverse
    rw [List.reverse_reverse]
  | n + 1, f :: rest, m, s, k, h => by
    show forceN f (fun f => bc (bitC m f) (goB (leads P) n rest m s k) (forceN (Nat.lor m (Nat.shiftLeft 1 f)) fun m' => goB (leads P) n (List.append (leads P f) rest) m' (List.cons f s) k)) = k (P.closureVia (n + 1) (f :: rest) s).reverse
    rw [forceN_eq, bitC_eq, h f, forceN_eq]
    have e : P.closureVia (n + 1) (f :: rest) s = if s.contains f then P.closureVia n rest s else P.closureVia n ((P.funcs[f]?).elim [] P.leadsTo ++ rest) (f :: s) := by
      rw [Program.closureVia]
    rw [e]
    cases hc : s.contains f with
    | true =>
      show goB (leads P) n rest m s k = _
      rw [goB_eq n rest m s k h, if_pos rfl]
    | false =>
      show goB (leads P) n (List.append (leads P f) rest) (Nat.lor m (Nat.shiftLeft 1 f)) (List.cons f s) k = _
      rw [goB_eq n _ _ _ k (fun x => ?_), if_neg (by simp)]
      · rfl
      · show Nat.testBit (m ||| (1 <<< f)) x = (f :: s).contains x
        rw [Nat.testBit_or, h x, List.contains_cons, Nat.one_shiftLeft, Nat.testBit_two_pow]
        by_cases hx : f = x
        · subst hx; simp
        · rw [decide_eq_false hx, show (x == f) = false from by simpa using fun e => hx e.symm]; simp

theorem closure_of {P : Program} {f : FuncId} {l : List Nat} (h : goB (leads P) (1 + (P.funcs.toList.map fun g => (P.leadsTo g).length + 1).sum) [f] 0 [] (fun s => leqN s l) = true) : P.closure f = l.reverse := by
  rw [goB_eq _ _ _ _ _ (fun x => by simp)] at h
  have := leqN_ok h
  unfold Program.closure
  rw [← this, List.reverse_reverse]
end Go.Proofs.YtbmekbpgoakkbaaGreatDoor.Vx
set_option linter.all false
set_option maxRecDepth 100000
namespace Go.Proofs.YtbmekbpgoakkbaaGreatDoor.Fct
open Go
def CL : List Nat := [16, 38, 89, 300, 168, 576, 438, 178, 308, 143, 75, 30, 385, 248, 384, 383, 247, 74, 138, 268, 267, 417, 266, 139, 264, 416, 562, 561, 560, 559, 558, 647, 557, 556, 555, 554, 553, 648, 646, 552, 551, 645, 550, 644, 643, 549, 642, 641, 548, 649, 640, 639, 638, 547, 415, 265, 546, 545, 544, 543, 637, 542, 636, 541, 635, 540, 686, 634, 633, 539, 632, 538, 537, 536, 631, 535, 534, 630, 531, 629, 532, 530, 414, 413, 263, 262, 259, 528, 529, 527, 533, 526, 525, 412, 411, 410, 260, 408, 258, 256, 524, 523, 522, 628, 409, 521, 520, 518, 517, 515, 516, 626, 514, 519, 513, 511, 512, 510, 509, 508, 507, 407, 406, 405, 404, 257, 255, 137, 395, 496, 495, 392, 391, 506, 505, 685, 624, 504, 403, 402, 622, 623, 503, 621, 502, 401, 399, 497, 498, 398, 397, 254, 253, 625, 617, 627, 618, 616, 713, 712, 711, 620, 501, 500, 400, 710, 702, 709, 708, 707, 701, 706, 705, 700, 694, 683, 615, 684, 682, 614, 494, 396, 613, 493, 382, 246, 418, 612, 492, 390, 389, 491, 490, 487, 388, 252, 136, 73, 380, 245, 144, 269, 141, 244, 132, 131, 69, 127, 68, 243, 242, 241, 124, 65, 64, 121, 225, 122, 379, 240, 378, 239, 128, 238, 237, 236, 235, 234, 485, 377, 233, 376, 232, 374, 486, 381, 373, 231, 230, 229, 484, 371, 370, 228, 483, 369, 368, 699, 693, 692, 681, 698, 691, 690, 680, 679, 678, 610, 609, 482, 367, 366, 364, 481, 365, 227, 480, 488, 677, 608, 479, 126, 67, 363, 226, 123, 63, 120, 118, 117, 62, 60, 70, 130, 251, 134, 270, 142, 250, 386, 249, 133, 71, 135, 72, 129, 140, 119, 222, 115, 116, 61, 114, 59, 66, 58, 57, 29, 28, 27, 26, 8, 309, 307, 177, 445, 306, 176, 444, 305, 668, 582, 667, 581, 443, 442, 304, 175, 88, 174, 173, 172, 303, 695, 687, 666, 665, 579, 580, 578, 577, 441, 440, 439, 302, 171, 170, 301, 169, 87, 361, 223, 575, 437, 299, 167, 166, 165, 164, 163, 162, 11, 297, 161, 573, 372, 499, 654, 572, 434, 433, 571, 619, 375, 611, 125, 393, 394, 489, 570, 432, 431, 295, 387, 584, 583, 446, 435, 296, 160, 45, 23, 22, 21, 20, 187, 100, 99, 98, 97, 48, 186, 185, 96, 44, 95, 47, 43, 42, 41, 19, 184, 94, 448, 313, 183, 312, 447, 311, 182, 181, 310, 180, 93, 92, 91, 90, 40, 18, 6, 294, 159, 158, 655, 574, 436, 298, 293, 292, 157, 34, 33, 32, 13, 17, 10, 430, 291, 156, 290, 112, 56, 221, 219, 360, 218, 179, 359, 217, 216, 215, 214, 213, 212, 211, 470, 354, 353, 220, 355, 357, 356, 210, 113, 352, 209, 111, 55, 54, 53, 349, 348, 347, 346, 604, 469, 468, 345, 344, 465, 343, 342, 207, 109, 110, 52, 51, 25, 206, 464, 341, 340, 478, 477, 476, 475, 676, 607, 606, 474, 467, 466, 473, 605, 472, 603, 463, 471, 362, 350, 208, 224, 205, 675, 602, 601, 462, 339, 204, 338, 203, 202, 600, 599, 598, 461, 596, 594, 674, 697, 689, 595, 592, 673, 672, 590, 591, 593, 589, 671, 588, 597, 587, 460, 459, 586, 458, 337, 201, 108, 287, 148, 79, 289, 288, 107, 333, 332, 331, 330, 329, 358, 261, 670, 714, 704, 456, 328, 703, 696, 455, 688, 669, 585, 457, 334, 327, 325, 326, 336, 200, 324, 335, 323, 322, 454, 453, 321, 199, 198, 106, 147, 78, 82, 651, 650, 567, 566, 425, 424, 565, 564, 351, 423, 422, 274, 146, 77, 320, 197, 105, 50, 196, 81, 452, 319, 278, 151, 83, 195, 194, 273, 563, 421, 272, 420, 419, 271, 145, 101, 46, 193, 451, 318, 192, 191, 190, 104, 188, 102, 49, 24, 286, 155, 154, 86, 284, 653, 652, 568, 428, 569, 429, 285, 282, 427, 283, 281, 279, 280, 153, 85, 152, 84, 39, 450, 317, 316, 315, 449, 314, 189, 103, 277, 150, 426, 276, 275, 149, 80, 37, 36, 35, 15, 4]
theorem clo : Tryz.prog.closure 4 = CL.reverse := Vx.closure_of (by kernel_rfl)
end Go.Proofs.YtbmekbpgoakkbaaGreatDoor.Fct
