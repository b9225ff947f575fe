/- The closed facts that the row asks of the program. -/
import Derived.Test.YtpdhahkeghblmaaGreatDoorF
import Derived.Test.YtpdhahkeghblmaaGreatDoorK3
namespace Go.Proofs.YtpdhahkeghblmaaGreatDoor
open Go Go.Proofs Go.RowKit
set_option maxRecDepth 1000000

/-- The functions that the law's own comes to, by number. -/
def closureL : List Nat := [5, 14, 15, 32, 60, 61, 116, 233, 416, 417, 564, 117, 118, 234, 126, 240, 239, 62, 119, 63, 120, 121, 235, 33, 64, 122, 123, 236, 238, 237, 125, 124, 65, 127, 128, 129, 241, 418, 130, 13, 29, 30, 31, 54, 90, 91, 153, 154, 266, 428, 575, 429, 155, 156, 267, 157, 268, 269, 92, 158, 159, 270, 271, 93, 160, 272, 430, 273, 274, 275, 276, 431, 432, 433, 434, 435, 436, 437, 277, 278, 161, 279, 280, 281, 89, 152, 7, 55, 94, 56, 95, 42, 133, 162, 282, 252, 283, 284, 164, 163, 41, 73, 131, 242, 243, 137, 245, 256, 419, 244, 132, 74, 75, 76, 134, 165, 166, 167, 168, 285, 286, 57, 96, 34, 43, 66, 67, 68, 69, 70, 169, 144, 287, 438, 439, 576, 577, 47, 78, 140, 254, 421, 138, 249, 250, 139, 251, 253, 79, 141, 255, 257, 288, 208, 377, 289, 441, 440, 261, 426, 573, 574, 425, 565, 263, 427, 566, 666, 567, 667, 668, 568, 669, 670, 740, 569, 570, 571, 572, 170, 290, 258, 422, 291, 292, 293, 442, 578, 294, 445, 443, 444, 59, 114, 115, 171, 295, 327, 172, 296, 446, 579, 580, 413, 581, 58, 18, 111, 112, 113, 230, 231, 232, 414, 415, 447, 297, 448, 582, 583, 302, 453, 671, 584, 585, 298, 449, 97, 173, 299, 450, 586, 672, 587, 673, 674, 522, 641, 642, 614, 606, 705, 478, 605, 707, 777, 708, 709, 710, 711, 604, 706, 607, 608, 712, 609, 713, 715, 716, 778, 714, 610, 611, 717, 612, 613, 718, 719, 615, 616, 720, 779, 823, 822, 780, 824, 781, 825, 721, 722, 523, 643, 644, 782, 534, 636, 731, 629, 783, 826, 827, 784, 828, 785, 322, 485, 619, 304, 588, 589, 590, 675, 676, 677, 678, 679, 680, 741, 742, 795, 796, 681, 743, 300, 451, 452, 174, 175, 301, 177, 303, 176, 182, 320, 321, 481, 482, 618, 723, 484, 145, 259, 423, 480, 483, 178, 306, 307, 455, 456, 213, 387, 388, 538, 650, 651, 652, 389, 409, 457, 591, 682, 308, 459, 460, 458, 462, 461, 463, 464, 592, 683, 744, 684, 685, 686, 745, 746, 747, 748, 749, 797, 833, 867, 900, 901, 923, 902, 903, 924, 925, 933, 904, 905, 906, 907, 834, 835, 868, 836, 869, 837, 838, 870, 908, 926, 909, 910, 927, 928, 911, 912, 929, 930, 934, 839, 871, 750, 751, 752, 798, 799, 596, 691, 601, 699, 702, 768, 815, 769, 816, 862, 774, 818, 753, 863, 897, 898, 899, 854, 880, 762, 770, 817, 763, 811, 812, 776, 761, 819, 820, 758, 807, 850, 851, 877, 878, 879, 852, 808, 759, 853, 754, 855, 856, 881, 882, 889, 883, 884, 890, 916, 917, 915, 857, 885, 858, 886, 887, 914, 888, 860, 891, 892, 893, 918, 894, 859, 814, 821, 703, 771, 704, 772, 773, 775, 692, 693, 694, 760, 810, 809, 861, 876, 895, 896, 919, 920, 921, 932, 922, 687, 593, 688, 755, 632, 505, 800, 756, 801, 802, 805, 840, 841, 842, 696, 843, 872, 873, 874, 844, 875, 913, 931, 935, 845, 846, 847, 848, 729, 554, 661, 737, 663, 803, 804, 806, 849, 594, 690, 597, 695, 697, 698, 689, 757, 465, 595, 598, 599, 700, 764, 813, 765, 766, 701, 767, 600, 305, 454, 98, 179, 309, 466, 310, 311, 312, 467, 468, 470, 313, 469, 471, 315, 473, 474, 476, 475, 603, 323, 477, 479, 617, 314, 472, 602, 316, 319, 318, 180, 317, 183, 181, 186, 328, 329, 495, 496, 626, 330, 497, 402, 99, 184, 324, 325, 486, 620, 621, 724, 622, 624, 487, 623, 489, 488, 491, 490, 492, 326, 493, 494, 625, 185, 100, 187, 188, 331, 498, 627, 725, 332, 499, 333, 500, 502, 501, 189, 334, 101, 190, 335, 503, 628, 191, 336, 337, 339, 338, 504, 340, 342, 341, 506, 507, 343, 192, 344, 345, 508, 630, 726, 786, 727, 509, 346, 193, 196, 349, 351, 350, 347, 348, 195, 194, 102, 197, 51, 84, 85, 86, 146, 148, 262, 147, 260, 424, 87, 149, 150, 264, 151, 265, 88, 353, 511, 405, 559, 398, 545, 546, 547, 658, 548, 732, 787, 789, 788, 829, 790, 830, 733, 734, 512, 513, 361, 514, 631, 728, 633, 634, 354, 355, 352, 510, 356, 198, 357, 199, 358, 200, 360, 359, 362, 103, 201, 363, 515, 516, 635, 638, 730, 639, 640, 364, 202, 365, 517, 518, 637, 519, 204, 366, 203, 104, 205, 206, 367, 368, 520, 521, 369, 525, 524, 645, 370, 526, 371, 527, 528, 646, 529, 372, 374, 530, 373, 376, 207, 375, 531, 647, 105, 209, 378, 532, 379, 535, 536, 533, 648, 649, 210, 380, 381, 211, 382, 106, 212, 383, 384, 385, 386, 537, 107, 214, 215, 390, 539, 391, 392, 393, 540, 541, 542, 653, 654, 543, 394, 108, 216, 217, 395, 544, 655, 656, 657, 218, 396, 109, 219, 397, 399, 549, 550, 551, 659, 735, 736, 791, 792, 793, 794, 831, 832, 864, 865, 866, 660, 552, 553, 220, 221, 223, 400, 224, 401, 403, 222, 110, 225, 404, 555, 556, 662, 557, 558, 226, 406, 407, 560, 408, 412, 561, 664, 738, 227, 410, 562, 563, 665, 739, 228, 411, 229, 16, 19, 38, 40, 39, 25, 50, 28, 26, 52, 11, 22, 46, 48]

theorem closureRun : Shd.cloK Tryz.prog 3100 [5] 0 [] (fun l => l == closureL) = true := by kernel_rfl
theorem closureFuel : Shd.fuelOk Tryz.prog 3100 = true := by kernel_rfl
theorem closure5 : Tryz.prog.closure 5 = closureL :=
  Shd.closure_of (P := Tryz.prog) (m := 3100) (f := 5) (L := closureL) closureRun closureFuel
theorem inPlace5 : Tryz.prog.inPlace 5 = ["maps.clone", "slices.overlaps[burnish/api.Instr]"] := Shd.inPlace_of (P := Tryz.prog) (L := closureL) closure5 (by kernel_rfl)
theorem unfollowed5 : Tryz.prog.unfollowed 5 = true := Shd.unfollowed_of (P := Tryz.prog) (L := closureL) closure5 (by kernel_rfl)
theorem recurses5 : Tryz.prog.recurses 5 = true := Shd.recurses_of (P := Tryz.prog) (f := 5) unfollowed5
theorem varsNamed5 : Tryz.prog.varsNamed 5 = ["burnish/intn.widths", "math/bits.deBruijn64tab", "burnish/value.poison", "burnish/value.unknown", "internal/strconv.uint64pow10", "math/bits.deBruijn32tab", "burnish/validator.accepted", "burnish/alias.unset"] :=
  Shd.varsNamed_of (P := Tryz.prog) (L := closureL) closure5 (by kernel_rfl)
theorem plainKeysNo : Tryz.prog.plainKeys = false := (Shd.plainKeysT_eq _).symm.trans (by kernel_rfl)
theorem laidOutYes : laidOutB Tryz.prog = true := (Shd.laidOutT_eq _).symm.trans (by kernel_rfl)
theorem mapsRowedYes : mapsRowed Tryz.prog = true := (Shd.mapsRowedT_eq _).symm.trans (by kernel_rfl)
theorem named5 : Tryz.prog.funcNamed "burnish/burnishlaw49.PassmanagerNil" = some 5 := Shd.funcNamed_of Tryz.func5 (by kernel_rfl) (by kernel_rfl)

theorem stopsHeard3 : Tryz.prog.stopsHeard = true := (Shd.stopsHeardT_eq _).symm.trans (by kernel_rfl)
theorem laysLater3 : Tryz.prog.laysLater = false := (Shd.laysLaterT_eq _).symm.trans (by kernel_rfl)
theorem mayEnter3 : Tryz.prog.mayEnter = true := by
  unfold Program.mayEnter
  rw [laysLater3]
  kernel_rfl

theorem facts5 : joinedFacts Tryz.prog 5 Tryz.f5 Rows.passmanagerNilSpec Rows.passmanagerNilRow = true := by
  unfold joinedFacts
  rw [laidOutYes, mapsRowedYes, inPlace5, unfollowed5, recurses5, varsNamed5, plainKeysNo, stopsHeard3, mayEnter3]
  repeat' (with_reducible refine Shd.andT ?_ ?_)
  all_goals kernel_rfl
end Go.Proofs.YtpdhahkeghblmaaGreatDoor
